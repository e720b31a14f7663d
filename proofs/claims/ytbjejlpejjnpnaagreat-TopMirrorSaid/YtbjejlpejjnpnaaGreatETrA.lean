/- The data of the abstract machine: type codes, their Lean types, what it means that cells of memory read as a datum; abstract values, and what it means that a value of the model is one. Conditions: none (definitions and monotonicity). -/
import Derived.Orders
import Derived.Laws.Cells
import Derived.Laws.CopyRow
import Derived.Laws.Tables
import Derived.Laws.Rows
import Derived.Laws.World
import Derived.Laws.AppendOwn
open Array renaming length_toList ->Vt,getElem?_eq_getElem ->Vda,toList_push ->Voa
open BitVec renaming ofInt ->Vo
open Bool renaming and_eq_true ->Vb,false_eq_true ->Vj,not_eq_true' ->Vfa,not_eq_true ->Vsa,or_eq_true ->Vva,not_false ->Vxa,false_and ->Vya,and_true ->Vza
open Go.Instr renaming sureAddr ->Vx,storeAt ->Via,alloc ->Vbb
open List renaming length_append ->Vl,isEmpty_iff ->Vp,getElem?_append_right ->Vq,range ->Vr,getElem?_eq_some_iff ->Vs,replicate ->Vw,take_append_drop ->Vz,getD_eq_getElem?_getD ->Vca,drop_eq_getElem_cons ->Vea,map_cons ->Vga,getElem?_append_left ->Vha,mem_append ->Vla,mem_cons ->Vna,nodup_append ->Vpa,append_assoc ->Vqa,all_eq_true ->Vra,map_append ->Vua,nodup_cons ->Vwa,mem_map ->Vab
open Nat renaming beq ->Vd,le_refl ->Vm,eq_of_beq_eq_true ->Vn,blt ->Vv,le_trans ->Vaa,ble ->Vba,zero_add ->Vja,le_of_ble_eq_true ->Vma
open Option renaming isSome_none ->Vu,bind_eq_some_iff ->Vka
open Prod renaming fst ->Vh
open Prod.mk renaming injEq ->Va,inj ->Vf
open Go.Result renaming andThen_ok ->Ve
open Go.Sem renaming run_bind ->Vg,run_pure ->Vi
open Go.Value renaming oneCell' ->Vc,cells ->Vk,slice ->Vta
open Go.World renaming cell? ->Vy
section
namespace Tr
theorem Zd{p:Prop}[Decidable p](h:p):decide p=true:=decide_eq_true h
theorem Zk{p:Prop}[Decidable p](h:¬p):decide p=false:=decide_eq_false h
theorem Za{α:Type _}{β:Type _}(a:α)(f:α->Option β):(some a).bind f=f a:=rfl
theorem Zc{α:Sort _}(a b:α):cond true a b=a:=rfl
theorem Ze{α:Sort _}(a b:α):cond false a b=b:=rfl
theorem Zp{c:Prop}{h:Decidable c}(k:c){α:Sort _}{t e:α} :ite c t e=t:=if_pos k
theorem Zf{c:Prop}{h:Decidable c}(k:¬c){α:Sort _}{t e:α} :ite c t e=e:=if_neg k
theorem KQ{p:Prop}[Decidable p]:(decide p=true)=p:=decide_eq_true_eq
theorem ZR(p:Prop):(p/\False)=False:=and_false p
theorem Z3(p:Prop):(p\/False)=p:=or_false p
theorem Ks{α:Type _}[BEq α][LawfulBEq α]{a b:α} :a==b↔a=b:=beq_iff_eq
theorem X8{p:Prop}[Decidable p](h:decide p=true):p:=of_decide_eq_true h
open Go
inductive Ty where
 |int (k:IntKind)
 |bool
 |str
 |sl (t:Ty)
 |unit
 |prod (a b:Ty)
 |arr (n:Nat) (t:Ty)
 |ref
 |pt (t:Ty)
 |lk (a b:Ty)
 |pn (t:Ty)
 deriving DecidableEq
@[reducible] def El:Ty->Type
  |.int _=>Int
  |.bool=>Bool
  |.str=>List UInt8
  |.sl t=>List (El t)
  |.unit=>Unit
  |.prod a b=>El a×El b
  |.arr _ t=>List (El t)
  |.ref=>Unit
  |.pt t=>Option (El t)
  |.lk a b=>List (El a×El b)
  |.pn t=>Option (Nat×El t)
def Ty.size:Ty->Nat
 |.unit=>0
 |.prod a b=>a.size+b.size
 |.arr n t=>n*t.size
 |_=>1
def Ty.agg:Ty->Bool
 |.unit=>true
 |.prod _ _=>true
 |.arr _ _=>true
 |_=>false
def KH(w:World)(b off:Nat)(l:List Value):Prop:= ∀j,(h:j<l.length)->w.cell? ⟨b,off+j,none⟩=some l[j]
def Fa{α β:Type}(r:α->β->Prop):List α->List β->Prop
 |[],[]=>True
 |a::l,b::m=>r a b/\Fa r l m
 |_,_=>False
def GX(w:World)(I:Nat->Prop){α:Type}(r:α->List Value->Prop):Option α->List Value->Prop
 |none,cs=>cs=[.pointer none]
 |some y,cs=>∃b cells e,cs=[.pointer (some ⟨b,0,none⟩)]/\I b/\w.heap[b]? =some (.cells cells e (0,0))/\r y cells.toList
def GW(w:World)(I:Nat->Prop){α:Type}(r:α->List Value->Prop):Option (Nat×α)->List Value->Prop
 |none,cs=>cs=[.pointer none]
 |some y,cs=>∃cells e,cs=[.pointer (some ⟨y.1,0,none⟩)]/\I y.1/\w.heap[y.1]? =some (.cells cells e (0,0))/\r y.2 cells.toList
def HY(w:World)(I:Nat->Prop){α β:Type}(e:α->List Value->Prop)(f:β->List Value->Prop):List (α×β)->List Value->Prop
 |[],cs=>cs=[.pointer none]
 |y::l,cs=>∃b off c cl d,cs=[.pointer (some ⟨b,off,none⟩)]/\I b/\KH w b off (c++(cl++d))/\e y.1 c/\HY w I e f l cl/\f y.2 d
def Rd(w:World)(I:Nat->Prop):(t:Ty)->El t->List Value->Prop
 |.int k,x,cs=>cs=[.int k x]
 |.bool,x,cs=>cs=[.bool x]
 |.str,x,cs=>cs=[.string ⟨x.toArray⟩]
 |.sl t,x,cs=>∃a cap c,cs=[.slice a x.length cap]/\Fa (Rd w I t) x c/\(x≠ []->∃b off,a=some ⟨b,off,none⟩/\I b/\KH w b off c.flatten)/\x.length<=cap
 |.unit,_,cs=>cs=[]
 |.prod a b,x,cs=>∃d e,cs=d++e/\Rd w I a x.1 d/\Rd w I b x.2 e
 |.arr n t,x,cs=>x.length=n/\ ∃c,cs=c.flatten/\Fa (Rd w I t) x c
 |.ref,_,_=>False
 |.pt t,x,cs=>GX w I (Rd w I t) x cs
 |.lk a b,x,cs=>HY w I (Rd w I a) (Rd w I b) x cs
 |.pn t,x,cs=>GW w I (Rd w I t) x cs
theorem Fa.mono{α β:Type}{r s:α->β->Prop}(h:∀a b,r a b->s a b):∀{l:List α}{m:List β},Fa r l m->Fa s l m
 |[],[],_=>trivial
 |_::_,_::_,⟨p,q⟩=>⟨h _ _ p,Fa.mono h q⟩
theorem Fa.length{α β:Type}{r:α->β->Prop} :∀{l:List α}{m:List β},Fa r l m->l.length=m.length
 |[],[],_=>rfl
 |_::_,_::_,⟨_,q⟩=>by simp [Fa.length q]
theorem Fa.get{α β:Type}{r:α->β->Prop} :∀{l:List α}{m:List β} (_:Fa r l m) (i:Nat) (a:α),l[i]? =some a->∃b,m[i]? =some b/\r a b
 |[],[],_,i,a,h=>by grind
 |x::l,y::m,⟨p,q⟩,i,a,h=>by
  cases i with
  |zero=>grind
  |succ i=>simp at h;obtain⟨b,c,d⟩:=Fa.get q i a h;grind
theorem Fa.append{α β:Type}{r:α->β->Prop} :∀{l l' :List α}{m b:List β},Fa r l m->Fa r l' b->Fa r (l++l') (m++b)
 |[],_,[],_,_,h=>h
 |_::_,_,_::_,_,⟨p,q⟩,h=>⟨p,Fa.append q h⟩
theorem Fa.take{α β:Type}{r:α->β->Prop} :∀{l:List α}{m:List β} (n:Nat),Fa r l m->Fa r (l.take n) (m.take n)
 |[],[],n,_=>by grind
 |_::_,_::_,0,_=>by simp [Fa]
 |_::_,_::_,n+1,⟨p,q⟩=>by simp only[List.take_succ_cons];exact⟨p,Fa.take n q⟩
theorem Fa.drop{α β:Type}{r:α->β->Prop} :∀{l:List α}{m:List β} (n:Nat),Fa r l m->Fa r (l.drop n) (m.drop n)
 |[],[],n,_=>by grind
 |_::_,_::_,0,h=>h
 |_::_,_::_,n+1,⟨_,q⟩=>by simp only[List.drop_succ_cons];exact Fa.drop n q
theorem Fa.set{α β:Type}{r:α->β->Prop} :∀{l:List α}{m:List β} (n:Nat) {a:α}{b:β},Fa r l m->r a b->Fa r (l.set n a) (m.set n b)
 |[],[],_,_,_,_,_=>by grind
 |_::_,_::_,0,_,_,⟨_,q⟩,h=>⟨h,q⟩
 |_::_,_::_,n+1,_,_,⟨p,q⟩,h=>⟨p,Fa.set n q h⟩
theorem Fa.eraseIdx{α β:Type}{r:α->β->Prop} :∀{l:List α}{m:List β} (n:Nat),Fa r l m->Fa r (l.eraseIdx n) (m.eraseIdx n)
 |[],[],_,_=>trivial
 |_::_,_::_,0,⟨_,q⟩=>q
 |_::_,_::_,n+1,⟨p,q⟩=>⟨p,Fa.eraseIdx n q⟩
def Kj(I:Nat->Prop)(w w' :World):Prop:= ∀b,I b->w'.heap[b]? =w.heap[b]?
theorem Zpx{w w' :World}{a:Addr}(h:w'.heap[a.block]? =w.heap[a.block]?):w'.cell? a=w.cell? a:=by simp [Vy,h]
theorem KH.mono{w w' :World}{b off:Nat}{l:List Value}(h:w'.heap[b]? =w.heap[b]?)(d:KH w b off l):KH w' b off l:=by intro j c;rw[Zpx (by simpa using h)];exact d j c
theorem GX.mono{w w' :World}{I d:Nat->Prop}{α:Type}{r i:α->List Value->Prop}(q:Kj I w w')(n:∀b,I b->d b)(p:∀x c,r x c->i x c):∀(x:Option α) (cs:List Value),GX w I r x cs->GX w' d i x cs
 |none,_,h=>h
 |some _,_,⟨b,c,e,j,f,k,m⟩=>⟨b,c,e,j,n _ f,(q _ f).trans k,p _ _ m⟩
theorem HY.mono{w w' :World}{I f:Nat->Prop}{α β:Type}{p d:α->List Value->Prop}{q e:β->List Value->Prop}(n:Kj I w w')(j:∀b,I b->f b)(k:∀x c,p x c->d x c)(m:∀x c,q x c->e x c):∀(x:List (α×β)) (cs:List Value),HY w I p q x cs->HY w' f d e x cs
 |[],_,h=>h
 |_::l,_,⟨b,off,r,cl,s,u,i,y,z,A,C⟩=>⟨b,off,r,cl,s,u,j _ i,y.mono (n _ i),k _ _ z,HY.mono n j k m l cl A,m _ _ C⟩
theorem GW.mono{w w' :World}{I d:Nat->Prop}{α:Type}{r i:α->List Value->Prop}(q:Kj I w w')(n:∀b,I b->d b)(p:∀x c,r x c->i x c):∀(x:Option (Nat×α)) (cs:List Value),GW w I r x cs->GW w' d i x cs
 |none,_,h=>h
 |some _,_,⟨c,e,j,f,k,m⟩=>⟨c,e,j,n _ f,(q _ f).trans k,p _ _ m⟩
theorem GW.length{w:World}{I:Nat->Prop}{α:Type}{r:α->List Value->Prop} :∀{x:Option (Nat×α)}{cs:List Value},GW w I r x cs->∃a,cs=[.pointer a]
 |none,_,h=>⟨_,h⟩
 |some _,_,⟨_,_,h,_⟩=>⟨_,h⟩
theorem GX.length{w:World}{I:Nat->Prop}{α:Type}{r:α->List Value->Prop} :∀{x:Option α}{cs:List Value},GX w I r x cs->∃a,cs=[.pointer a]
 |none,_,h=>⟨_,h⟩
 |some _,_,⟨_,_,_,h,_⟩=>⟨_,h⟩
theorem HY.length{w:World}{I:Nat->Prop}{α β:Type}{b:α->List Value->Prop}{c:β->List Value->Prop} :∀{x:List (α×β)}{cs:List Value},HY w I b c x cs->∃a,cs=[.pointer a]
 |[],_,h=>⟨_,h⟩
 |_::_,_,⟨_,_,_,_,_,h,_⟩=>⟨_,h⟩
theorem Rd.mono{w w' :World}{I q:Nat->Prop}(e:Kj I w w')(d:∀b,I b->q b):∀(t:Ty) (x:El t) (cs:List Value),Rd w I t x cs->Rd w' q t x cs
 |.int _,_,_,h=>h
 |.bool,_,_,h=>h
 |.str,_,_,h=>h
 |.sl t,x,cs,h=>by
  obtain⟨a,cap,i,j,k,m,C⟩:=h;refine⟨a,cap,i,j,k.mono fun y c f=>Rd.mono e d t y c f,fun p=>?_,C⟩;obtain⟨b,off,z,r,A⟩:=m p
  exact⟨b,off,z,d _ r,A.mono (e _ r)⟩
 |.unit,_,_,h=>h
 |.prod a b,x,cs,h=>by
  obtain⟨s,u,j,k,m⟩:=h
  exact⟨s,u,j,Rd.mono e d a _ _ k,Rd.mono e d b _ _ m⟩
 |.arr n t,x,cs,h=>by
  obtain⟨j,i,k,m⟩:=h
  exact⟨j,i,k,m.mono fun y c f=>Rd.mono e d t y c f⟩
 |.ref,_,_,h=>h.elim
 |.pt t,x,cs,h=>GX.mono e d (fun y c f=>Rd.mono e d t y c f) x cs h
 |.lk a b,x,cs,h=>HY.mono e d (fun y c f=>Rd.mono e d a y c f) (fun y c f=>Rd.mono e d b y c f) x cs h
 |.pn t,x,cs,h=>GW.mono e d (fun y c f=>Rd.mono e d t y c f) x cs h
theorem JV{css:List (List Value)}{n:Nat}(h:∀c∈css,c.length=n):css.flatten.length=css.length*n:=by
 induction css with
 |nil=>simp
 |cons c l b=>
  grind
theorem Fa.all_right{α β:Type}{r:α->β->Prop}{p:β->Prop}(d:∀a b,r a b->p b):∀{l:List α}{m:List β},Fa r l m->∀b∈m,p b
 |[],[],_=>by simp
 |_::_,y::m,⟨h,q⟩=>by
  intro b c;simp at c;rcases c with rfl|c
  ·grind
  ·exact Fa.all_right d q b c
theorem Rd.length{w:World}{I:Nat->Prop} :∀(t:Ty) (x:El t) (cs:List Value),Rd w I t x cs->cs.length=t.size
 |.int _,_,_,h=>by rw[h];rfl
 |.bool,_,_,h=>by rw[h];rfl
 |.str,_,_,h=>by rw[h];rfl
 |.sl t,x,cs,h=>by
  obtain⟨a,cap,f,d,_⟩:=h
  rw[d];rfl
 |.unit,_,_,h=>by rw[h];rfl
 |.prod a b,x,cs,h=>by
  obtain⟨k,m,d,i,e⟩:=h
  rw[d,Vl,Rd.length a _ _ i,Rd.length b _ _ e];rfl
 |.arr n t,x,cs,h=>by
  obtain⟨d,f,i,e⟩:=h
  rw[i,JV (e.all_right fun y c j=>Rd.length t y c j), <-e.length,d];rfl
 |.ref,_,_,h=>h.elim
 |.pt t,x,cs,h=>by obtain⟨a,rfl⟩:=GX.length h;rfl
 |.lk a b,x,cs,h=>by obtain⟨p,rfl⟩:=HY.length h;rfl
 |.pn t,x,cs,h=>by obtain⟨a,rfl⟩:=GW.length h;rfl
theorem Rd.all_length{w:World}{I:Nat->Prop}{t:Ty}{x:List (El t)}{css:List (List Value)}(h:Fa (Rd w I t) x css):∀c∈css,c.length=t.size:=
 h.all_right fun y c b=>Rd.length t y c b
mutual
inductive AV where
 |d (t:Ty) (x:El t)
 |junk
 |tup (l:Zq)
 |agg (l:Zq)
 |dp (t:Ty) (x:El t)
 |ptr (id:Nat) (path:List Nat)
 |vw (id:Nat)
 |vs (id lo n:Nat)
 |vp (id i:Nat) (path:List Nat)
 |mp (id:Nat)
 |fn (f:FuncId) (c:Zq)
 |nilr (p:Bool)
 |nils
 |jk (n:Nat)
 |nw (id ver:Nat) (b:Ty) (k:El b)
 |np (id ver:Nat) (b:Ty) (k:El b) (i:Nat) (path:List Nat)
inductive Zq where
 |nil
 |cons (v:AV) (l:Zq)
end
def Z0:Ty->List Nat->Option (Nat×Ty)
 |t,[]=>some (0,t)
 |.prod a b,i::p=>match i with
  |0=>Z0 a p
  |n+1=>(Z0 b (n::p)).map fun r=>(r.1+a.size,r.2)
 |.arr n t,i::p=>if i<n then(Z0 t p).map fun r=>(r.1+i*t.size,r.2) else none
 |_,_::_=>none
def Ru:Ty->List Nat->Option Ty
 |t,[]=>some t
 |.prod a b,i::p=>match i with
  |0=>Ru a p
  |n+1=>Ru b (n::p)
 |.arr _ t,_::p=>Ru t p
 |_,_::_=>none
structure Gh where
 I:Nat->Prop
 K:Nat->Prop
 ty:Nat->Ty
 blk:Nat->Option Nat
 slv:Nat->Value
 ver:Nat->Nat
 row:Nat->(kt:Ty)->El kt->Value
structure Gh.Le (g g' :Gh):Prop where
 I:∀b,g.I b->g'.I b
 K:∀id,g.K id->g'.K id
 ty:∀id,g.K id->g'.ty id=g.ty id
 blk:∀id,g.K id->g'.blk id=g.blk id
 slv:∀id,g.K id->g'.slv id=g.slv id
 ver:∀id,g.K id->g.ver id<=g'.ver id
 row:∀id,g.K id->g'.ver id=g.ver id->g'.row id=g.row id
theorem Gh.Le.refl(g:Gh):g.Le g:=⟨fun _ h=>h,fun _ h=>h,by simp,by simp,by simp,by omega,by simp⟩
theorem Gh.Le.trans{a b c:Gh}(h:a.Le b)(k:b.Le c):a.Le c:=
 ⟨fun i p=>k.I _ (h.I i p),fun i p=>k.K _ (h.K i p),fun i p=>(k.ty _ (h.K i p)).trans (h.ty i p),fun i p=>(k.blk _ (h.K i p)).trans (h.blk i p),fun i p=>(k.slv _ (h.K i p)).trans (h.slv i p),fun i p=>Vaa (h.ver i p) (k.ver _ (h.K i p)),fun i p e=>by have d:=h.ver i p;have f:=k.ver _ (h.K i p);exact(k.row _ (h.K i p) (by omega)).trans (h.row i p (by omega))⟩
def Di:Ty->Ty
 |.sl t=>t
 |t=>t
def Zbk(v:Value)(size lo n:Nat)(cs:List Value):Prop:=
 (v=.slice none 0 0/\lo=0/\n=0/\cs=[.slice none 0 0])\/
 ∃b len cap m,v=.slice (some ⟨b,0,none⟩) len cap/\lo+n<=len/\n<=m/\lo+m<=cap/\cs=[.slice (some ⟨b,if m=0 then 0 else lo*size,none⟩) n m]
mutual
def CV(w:World)(g:Gh):AV->List Value->Prop
 |.d t x,cs=>Rd w g.I t x cs
 |.junk,_=>True
 |.tup _,_=>False
 |.agg l,cs=>Z5 w g l cs
 |.dp t x,cs=>∃b off c,cs=[.pointer (some ⟨b,off,none⟩)]/\g.I b/\KH w b off c/\Rd w g.I t x c
 |.ptr id p,cs=>g.K id/\ ∃o t b,Z0 (g.ty id) p=some (o,t)/\g.blk id=some b/\cs=[.pointer (some ⟨b,o,none⟩)]
 |.vw id,cs=>g.K id/\cs=[g.slv id]/\(g.slv id).oneCell'=true
 |.vs id lo n,cs=>g.K id/\Zbk (g.slv id) (g.ty id).size lo n cs
 |.vp id i p,cs=>g.K id/\ ∃o t b,Z0 (g.ty id) p=some (o,t)/\g.blk id=some b/\cs=[.pointer (some ⟨b,i* (g.ty id).size+o,none⟩)]
 |.mp id,cs=>g.K id/\ ∃b,g.blk id=some b/\cs=[.map (some b)]
 |.fn f l,cs=>∃m:List Value,cs=[.func (.func f) #[] m.toArray]/\Z5 w g l m
 |.nilr p,cs=>cs=[.pointer none]\/p=false/\cs=[.nilFunc]\/p=false/\cs=[.map none]
 |.nils,cs=>cs=[.slice none 0 0]
 |.jk n,cs=>cs.length=n/\ ∀v∈cs,v.oneCell' =true
 |.nw id ver e k,cs=>g.K id/\ver<=g.ver id/\ ∃v,cs=[v]/\v.oneCell' =true/\(g.ver id=ver->v=g.row id e k)
 |.np id ver e k i p,cs=>g.K id/\ver<=g.ver id/\ ∃a,cs=[.pointer (some a)]/\(g.ver id=ver->∃b len cap o t,g.row id e k=.slice (some ⟨b,0,none⟩) len cap/\Z0 (Di (g.ty id)) p=some (o,t)/\a=⟨b,i* (Di (g.ty id)).size+o,none⟩)
def Z5(w:World)(g:Gh):Zq->List Value->Prop
 |.nil,cs=>cs=[]
 |.cons v l,cs=>∃h j,cs=h++j/\CV w g v h/\Z5 w g l j
end
theorem Za3{w:World}{g:Gh}{p:Bool}{cs:List Value}(h:CV w g (.nilr p) cs):cs=[.pointer none]\/cs=[.nilFunc]\/cs=[.map none]:=by
 simp only[CV]at h;rcases h with h|⟨_,h⟩|⟨_,h⟩
 ·exact .inl h
 ·exact .inr (.inl h)
 ·exact .inr (.inr h)
theorem Zk7{w:World}{g:Gh}{cs:List Value}(h:CV w g (.nilr true) cs):cs=[.pointer none]:=by
 simp only[CV]at h;rcases h with h|⟨h,_⟩|⟨h,_⟩
 ·exact h
 ·cases h
 ·cases h
mutual
theorem CV.mono{w w' :World}{g z:Gh}(u:Kj g.I w w')(j:g.Le z):∀(v:AV) (cs:List Value),CV w g v cs->CV w' z v cs
 |.d t x,cs,h=>Rd.mono u j.I t x cs h
 |.junk,_,_=>by simp [CV]
 |.tup _,_,h=>by simp [CV]at h
 |.agg l,cs,h=>by simp only[CV]at h⊢;exact Z5.mono u j l cs h
 |.dp t x,cs,h=>by
  simp only[CV]at h⊢;obtain⟨b,off,c,q,r,s,J⟩:=h
  exact⟨b,off,c,q,j.I _ r,s.mono (u _ r),Rd.mono u j.I t x c J⟩
 |.ptr id p,cs,h=>by
  simp only[CV]at h⊢;obtain⟨m,o,t,b,q,r,s⟩:=h
  exact⟨j.K _ m,o,t,b,by rw[j.ty _ m];exact q,by rw[j.blk _ m];exact r,s⟩
 |.vw id,cs,h=>by
  simp only[CV]at h⊢
  exact⟨j.K _ h.1,by rw[j.slv _ h.1];exact h.2⟩
 |.vs id lo n,cs,h=>by
  simp only[CV]at h⊢
  exact⟨j.K _ h.1,by rw[j.slv _ h.1,j.ty _ h.1];exact h.2⟩
 |.vp id i p,cs,h=>by
  simp only[CV]at h⊢;obtain⟨m,o,t,b,q,r,s⟩:=h
  exact⟨j.K _ m,o,t,b,by rw[j.ty _ m];exact q,by rw[j.blk _ m];exact r,by rw[j.ty _ m];exact s⟩
 |.mp id,cs,h=>by
  simp only[CV]at h⊢;obtain⟨m,b,q,r⟩:=h
  exact⟨j.K _ m,b,by rw[j.blk _ m];exact q,r⟩
 |.fn f l,cs,h=>by
  simp only[CV]at h⊢;obtain⟨G,q,r⟩:=h
  exact⟨G,q,Z5.mono u j l G r⟩
 |.nilr _,_,h=>by simpa only[CV] using h
 |.nils,_,h=>by simpa only[CV] using h
 |.jk _,_,h=>by simpa only[CV] using h
 |.nw id ver L k,cs,h=>by
  simp only[CV]at h⊢;obtain⟨m,A,v,q,r,s⟩:=h;have y:=j.ver _ m
  exact⟨j.K _ m,Vaa A y,v,q,r,fun e=>by rw[j.row _ m (by omega)];exact s (by omega)⟩
 |.np id ver L k i p,cs,h=>by simp only[CV]at h⊢;obtain⟨m,A,a,q,s⟩:=h;have y:=j.ver _ m;exact⟨j.K _ m,Vaa A y,a,q,fun e=>by rw[j.row _ m (by omega),j.ty _ m];exact s (by omega)⟩
theorem Z5.mono{w w' :World}{g z:Gh}(u:Kj g.I w w')(j:g.Le z):∀(l:Zq) (cs:List Value),Z5 w g l cs->Z5 w' z l cs
 |.nil,_,h=>by simpa only[Z5] using h
 |.cons v l,cs,h=>by simp only[Z5]at h⊢;obtain⟨C,D,q,r,s⟩:=h;exact⟨C,D,q,CV.mono u j v C r,Z5.mono u j l D s⟩
end
def AV.isAgg:AV->Bool
 |.d t _=>t.agg
 |.agg _=>true
 |_=>false
def Ka:Value->Bool
 |.agg _=>true
 |_=>false
def Kk(w:World)(g:Gh)(a:AV)(v:Value):Prop:=CV w g a v.cells.toList/\(a=.junk\/Ka v=a.isAgg)
def WM(w:World)(g:Gh):Zq->List Value->Prop
 |.nil,vs=>vs=[]
 |.cons a l,vs=>∃v r,vs=v::r/\Kk w g a v/\WM w g l r
def VR(w:World)(g:Gh):AV->Value->Prop
 |.tup l,v=>∃vs:List Value,v=.tuple vs.toArray/\WM w g l vs
 |a,v=>Kk w g a v
theorem Kk.mono{w w' :World}{g b:Gh}(d:Kj g.I w w')(c:g.Le b){a:AV}{v:Value}(h:Kk w g a v):Kk w' b a v:=⟨CV.mono d c _ _ h.1,h.2⟩
theorem WM.mono{w w' :World}{g b:Gh}(d:Kj g.I w w')(c:g.Le b):∀{l:Zq}{vs:List Value},WM w g l vs->WM w' b l vs
 |.nil,_,h=>h
 |.cons _ _,_,h=>by obtain⟨v,r,e,f,i⟩:=h;exact⟨v,r,e,f.mono d c,i.mono d c⟩
theorem VR.mono{w w' :World}{g b:Gh}(d:Kj g.I w w')(c:g.Le b){a:AV}{v:Value}(h:VR w g a v):VR w' b a v:=by
 cases a with
 |tup l=>obtain⟨vs,e,f⟩:=h;exact⟨vs,e,f.mono d c⟩
 |_=>exact Kk.mono d c h
theorem DO{w:World}{g:Gh}{v:Value} :VR w g .junk v:=⟨by simp [CV],.inl rfl⟩
end Tr
end
section
namespace Tr
open Go
inductive K0 where
 |var (t:Ty) (c:AV)
 |vec (t:Ty) (xs:List (El t))
 |map (kt vt:Ty) (m:List (El kt×El vt))
 |rows (t:Ty) (xs:List (List (El t))) (ver:Nat) (hole:Option Nat)
 |mrows (kt t:Ty) (m:List (El kt×List (El t))) (ver:Nat) (hole:Option (El kt))
 |rng (kt vt:Ty) (rest:List (El kt×El vt)) (cur:Option (El kt×El vt))
 |dat (t:Ty) (xs:List (El t))
 |bld (T e:TypeId) (bs:List UInt8)
 |cel (t:Ty) (l:List AV)
mutual
def AV.fits:AV->Ty->Bool
 |.d c _,t=>c==t
 |.agg l,t=>l.fits t
 |.jk n,t=>n==t.size
 |.junk,_=>false
 |.tup _,_=>false
 |.vw _,.sl _=>true
 |.vs _ _ _,.sl _=>true
 |.nw _ _ _ _,.sl _=>true
 |.np _ _ _ _ _ _,.ref=>true
 |.nils,.sl _=>true
 |.dp _ _,.ref=>true
 |.ptr _ _,.ref=>true
 |.vp _ _ _,.ref=>true
 |.mp _,.ref=>true
 |.fn _ _,.ref=>true
 |.nilr _,.ref=>true
 |.dp _ _,.pt _=>true
 |.dp _ _,.lk _ _=>true
 |.ptr _ _,.pt _=>true
 |.ptr _ _,.lk _ _=>true
 |.nilr _,.pt _=>true
 |.nilr _,.lk _ _=>true
 |_,_=>false
def Zq.fits:Zq->Ty->Bool
 |.nil,.unit=>true
 |.cons v l,.prod a b=>v.fits a&&l.fits b
 |_,_=>false
end
def WH(w:World)(I J:Nat->Prop)(t:Ty)(xs:List (El t))(d:Value):Prop:=
 (xs=[]/\d=.slice none 0 0)\/ ∃b cap cells e c,d=.slice (some ⟨b,0,none⟩) xs.length cap/\J b/\w.heap[b]? =some (.cells cells e (0,0))/\xs.length<=cap/\cap*t.size<=cells.size/\Fa (Rd w I t) xs c/\c.flatten<+:cells.toList
def Wo:Value->Option Nat
 |.slice (some a) _ _=>some a.block
 |_=>none
structure RF {κ:Type} (w:World) (I J:Nat->Prop) (t:Ty) (top:Option Nat) (row:κ->Value) (c:κ->List (El t)->Prop) (hole:Option κ):Prop where
 rd:∀k x,c k x->hole≠some k->WH w I J t x (row k)
 ds:∀k k' x x' b,c k x->c k' x' ->k≠k' ->hole≠some k->hole≠some k' ->Wo (row k)=some b->Wo (row k')≠some b
 tp:∀k x b,c k x->hole≠some k->Wo (row k)=some b->top≠some b
def Ix(es:Array MapEntry)(clock:Nat):Prop:=clock=es.size/\ ∀(i:Nat) (e:MapEntry),es[i]? =some e->e.born=i
def Bn(es:Array MapEntry)(clock:Nat):Prop:=(∀x∈es.toList,x.born<clock)/\(es.toList.map (·.born)).Nodup
theorem Bn.empty(c:Nat):Bn #[] c:=⟨by simp,by simp⟩
theorem Bn.push{es:Array MapEntry}{clock:Nat}(h:Bn es clock){e:MapEntry}(j:e.born=clock):Bn (es.push e) (clock+1):=by
 refine⟨fun x c=>?_,?_⟩
 ·rw[Voa]at c;rcases Vla.1 c with d|d
  ·exact Nat.lt_succ_of_lt (h.1 x d)
  grind
 ·rw[Voa,Vua];refine Vpa.2 ⟨h.2,by simp,fun a i b f=>?_⟩;simp at f;subst f;obtain⟨x,c,rfl⟩:=Vab.1 i;have:=h.1 x c;omega
theorem Bn.same{es es' :Array MapEntry}{clock:Nat}(h:Bn es clock)(c:es'.toList.map (·.born)=es.toList.map (·.born)):Bn es' clock:=by
 refine⟨fun x e=>?_,c▸h.2⟩;have:x.born∈es.toList.map (·.born):=by grind
 obtain⟨y,d,b⟩:=Vab.1 this;rw[<-b];exact h.1 y d
def Hv(es:Array MapEntry)(seen:Array Nat):List MapEntry:=es.toList.filter fun e=> !seen.contains e.born
def u8s(l:List UInt8):List Value:=l.map fun b=>Value.int .u8 b.toNat
def Zbw(w:World)(J:Nat->Prop)(T e:TypeId)(c:List UInt8)(b:Nat):Prop:=
 J b/\ ∃p row,(p=.pointer none\/p=.pointer (some ⟨b,0,none⟩))/\w.heap[b]? =some (.cells #[p,row] T (0,0))/\w.ownsRow 0 e 1 row c.length (u8s c)/\(∀k,row.ownBlock=some k->k≠b/\J k)/\(c=[]->row=.slice none 0 0)
theorem Zbw.mono{w w' :World}{J c:Nat->Prop}{T e:TypeId}{d:List UInt8}{b:Nat}(s:∀b,J b->c b)(u:∀b,J b->w'.heap[b]? =w.heap[b]?)(h:Zbw w J T e d b):Zbw w' c T e d b:=by
 obtain⟨j,p,row,k,x,f,m,i⟩:=h;refine⟨s _ j,p,row,k,by grind,⟨f.1,?_⟩,by grind,i⟩;rcases f.2 with y|⟨g,cap,cur,rfl,n,q,r⟩
 ·grind
 ·exact .inr ⟨g,cap,cur,rfl,n,(u _ (m g rfl).2).trans q,r⟩
def WF(w:World)(g:Gh)(ow:Nat->Prop)(id:Nat):K0->Prop
 |.var t c=>g.ty id=t/\c.fits t=true/\ ∃b cs e,g.blk id=some b/\ow b/\w.heap[b]? =some (.cells cs e (0,0))/\cs.size=t.size/\CV w g c cs.toList
 |.vec t xs=>g.ty id=t/\((xs=[]/\g.blk id=none/\g.slv id=.slice none 0 0)\/
   ∃b cap cs e n,g.blk id=some b/\ow b/\g.slv id=.slice (some ⟨b,0,none⟩) xs.length cap/\w.heap[b]? =some (.cells cs e (0,0))/\xs.length<=cap/\cap*t.size<=cs.size/\
    Fa (Rd w g.I t) xs n/\n.flatten<+:cs.toList)
 |.map h p m=>∃b es clock,g.blk id=some b/\ow b/\w.heap[b]? =some (.map es clock)/\Bn es clock/\Fa (fun kv e=>Kk w g (.d h kv.1) e.key/\Kk w g (.d p kv.2) e.val) m es.toList
 |.rows t xs ver f=>g.ty id=.sl t/\g.ver id=ver/\RF w g.I ow t (g.blk id) (fun i:Nat=>g.row id (.int .i64) (i:Int)) (fun i x=>xs[i]? =some x) f/\
   ((xs=[]/\g.blk id=none/\g.slv id=.slice none 0 0)\/
     ∃b cap cs e,g.blk id=some b/\ow b/\g.slv id=.slice (some ⟨b,0,none⟩) xs.length cap/\w.heap[b]? =some (.cells cs e (0,0))/\xs.length<=cap/\cap<=cs.size/\ ∀i:Nat,i<xs.length->cs[i]? =some (g.row id (.int .i64) (i:Int)))
 |.mrows h t m ver f=>g.ty id=.sl t/\g.ver id=ver/\RF w g.I ow t (g.blk id) (g.row id h) (fun k x=>(k,x)∈m) f/\(m.map Vh).Nodup/\(∀k,k ∉ m.map Vh->g.row id h k=.slice none 0 0)/\
   ∃b es clock,g.blk id=some b/\ow b/\w.heap[b]? =some (.map es clock)/\Ix es clock/\Fa (fun kv e=>Kk w g (.d h kv.1) e.key/\e.val=g.row id h kv.1) m es.toList
 |.rng h p rest cur=>∃b q es clock since seen,g.ty id=.ref/\g.blk id=some b/\ow b/\ow q/\w.heap[b]? =some (.mapIter (some q) since seen clock)/\w.heap[q]? =some (.map es clock)/\
   ((∀x∈es.toList,x.born<since)/\since<=clock/\(es.toList.map (·.born)).Nodup)/\Fa (fun kv e=>Kk w g (.d h kv.1) e.key/\Kk w g (.d p kv.2) e.val) rest (Hv es seen)/\
   ∀kv,cur=some kv->∃e∈es.toList,∃j:Array Nat,seen=j.push e.born/\Kk w g (.d h kv.1) e.key/\Kk w g (.d p kv.2) e.val
 |.dat t xs=>g.ty id=t/\Rd w g.I (.sl t) xs [g.slv id]
 |.bld T e s=>∃b,g.blk id=some b/\Zbw w ow T e s b
 |.cel t l=>g.ty id=t/\(t.size=1/\t.agg=false)/\((l=[]/\g.blk id=none/\g.slv id=.slice none 0 0)\/
   ∃b cap cs e r,g.blk id=some b/\ow b/\g.slv id=.slice (some ⟨b,0,none⟩) l.length cap/\w.heap[b]? =some (.cells cs e (0,0))/\l.length<=cap/\cap<=cs.size/\
    Fa (fun a v=>Kk w g a v/\v.oneCell' =true) l r/\r<+:cs.toList)
structure Kd where
 w0:World
 own0:Nat->Prop
 I0:Nat->Prop
 pl:Bool
abbrev AH:=Nat->Option K0
structure X2 (w' w:World):Prop where
 out:w'.output=w.output
 drawn:w.drawn<=w'.drawn
theorem X2.rfl{w:World} :X2 w w:=⟨_root_.rfl,Vm _⟩
structure YX (d:Bool) (w' w:World):Prop where
 out:w'.output=w.output
 drawn:d=true->w.drawn<=w'.drawn
theorem YX.rfl{d:Bool}{w:World} :YX d w w:=⟨_root_.rfl,by omega⟩
theorem X2.trans{d:Bool}{a b c:World}(h:X2 a b)(k:YX d b c):YX d a c:=⟨h.out.trans k.out,fun e=>Vaa (k.drawn e) h.drawn⟩
theorem YX.trans{d:Bool}{a b c:World}(h:YX d a b)(k:YX d b c):YX d a c:=⟨h.out.trans k.out,fun e=>Vaa (k.drawn e) (h.drawn e)⟩
theorem YX.weak{d e:Bool}{a b:World}(h:YX d a b)(k:e=true->d=true):YX e a b:=⟨h.out,fun x=>h.drawn (k x)⟩
structure RH (B:Kd) (H:AH) (w:World) (g:Gh) (ow:Nat->Nat->Prop):Prop where
 objs:∀id o,H id=some o->g.K id/\WF w g (ow id) id o
 dist:∀id id' b,H id≠none->H id' ≠none->ow id b->ow id' b->id=id'
 sep:∀id b,H id≠none->ow id b->¬g.I b/\b<w.heap.size/\(B.own0 b\/B.w0.heap.size<=b)
 ilt:∀b,g.I b->b<w.heap.size
 inew:∀b,g.I b->B.I0 b\/B.own0 b\/B.w0.heap.size<=b
 os:w.os=B.w0.os
 tape:w.tape=B.w0.tape
 output:YX B.pl w B.w0
 size:B.w0.heap.size<=w.heap.size
 kept:∀b,b<B.w0.heap.size->¬B.own0 b->w.heap[b]? =B.w0.heap[b]?
structure Jr (w w' :World):Prop where
 heap:w'.heap=w.heap
 os:w'.os=w.os
 tape:w'.tape=w.tape
 output:X2 w' w
theorem Jr.refl(w:World):Jr w w:=⟨rfl,rfl,rfl,.rfl⟩
theorem Jr.agree{w w' :World}(h:Jr w w')(I:Nat->Prop):Kj I w w' :=fun b _=>by rw[h.heap]
theorem WH.mono{w w' :World}{I i J j:Nat->Prop}{t:Ty}{xs:List (El t)}{d:Value}(z:Kj I w w')(s:∀b,I b->i b)(u:∀b,Wo d=some b->J b->j b)(y:∀b,Wo d=some b->J b->w'.heap[b]? =w.heap[b]?)(h:WH w I J t xs d):WH w' i j t xs d:=by
 rcases h with h|⟨b,cap,cells,e,f,rfl,k,m,n,p,q,r⟩
 ·exact .inl h
 ·exact .inr ⟨b,cap,cells,e,f,rfl,u b rfl k,(y b rfl k).trans m,n,p,q.mono fun x c A=>Rd.mono z s t x c A,r⟩
theorem RF.mono{κ:Type}{w w' :World}{I d J e:Nat->Prop}{t:Ty}{top:Option Nat}{row:κ->Value}{c:κ->List (El t)->Prop}{hole:Option κ}(m:Kj I w w')(j:∀b,I b->d b)(n:∀b,J b->e b)(p:∀b,J b->w'.heap[b]? =w.heap[b]?)
 (h:RF w I J t top row c hole):RF w' d e t top row c hole:=
 ⟨fun k x f i=>(h.rd k x f i).mono m j (by grind) (by grind),h.ds,h.tp⟩
theorem WF.mono{w w' :World}{g L:Gh}{ow:Nat->Prop}{id:Nat}{o:K0}(p:Kj g.I w w')(d:g.Le L)(f:g.K id)(y:L.ver id=g.ver id)(G:∀b,ow b->w'.heap[b]? =w.heap[b]?)(h:WF w g ow id o):WF w' L ow id o:=by
 cases o with
 |var t c=>
  obtain⟨r,Y,b,cs,e,i,k,j,n,s⟩:=h
  exact⟨(d.ty _ f).trans r,Y,b,cs,e,(d.blk _ f).trans i,k,by grind,n,s.mono p d⟩
 |vec t xs=>
  obtain⟨r,h⟩:=h;refine⟨(d.ty _ f).trans r,?_⟩;rcases h with ⟨i,j,n⟩|⟨b,cap,cs,e,J,i,k,j,n,s,A,u,C⟩
  ·exact .inl ⟨i,(d.blk _ f).trans j,(d.slv _ f).trans n⟩
  ·exact .inr ⟨b,cap,cs,e,J,(d.blk _ f).trans i,k,(d.slv _ f).trans j,by grind,s,A,u.mono fun x c q=>Rd.mono p d.I t x c q,C⟩
 |map V vt m=>
  obtain⟨b,es,clock,i,k,j,R,n⟩:=h
  exact⟨b,es,clock,(d.blk _ f).trans i,k,by grind,R,n.mono fun x e q=>⟨q.1.mono p d,q.2.mono p d⟩⟩
 |rows t xs ver D=>
  obtain⟨r,i,j,h⟩:=h;refine⟨(d.ty _ f).trans r,y.trans i,?_,?_⟩
  ·rw[d.row _ f y,d.blk _ f];exact j.mono p d.I (by simp) G
  ·rw[d.row _ f y,d.blk _ f,d.slv _ f]
   grind
 |mrows V t m ver D=>
  obtain⟨r,i,j,n,s,b,es,clock,A,u,C,S,Q⟩:=h;refine⟨(d.ty _ f).trans r,y.trans i,?_,n,?_,b,es,clock,(d.blk _ f).trans A,u,by grind,S,?_⟩
  ·rw[d.row _ f y,d.blk _ f];exact j.mono p d.I (by simp) G
  ·rw[d.row _ f y];omega
  ·rw[d.row _ f y];exact Q.mono fun x e q=>⟨q.1.mono p d,q.2⟩
 |rng V vt rest cur=>
  obtain⟨b,Z,es,clock,since,seen,r,i,j,n,s,A,u,C,Q⟩:=h;refine⟨b,Z,es,clock,since,seen,(d.ty _ f).trans r,(d.blk _ f).trans i,j,n,by grind,by grind,u,C.mono fun x e q=>⟨q.1.mono p d,q.2.mono p d⟩,fun kv U=>?_⟩;obtain⟨e,W,z,M,N,O⟩:=Q kv U
  exact⟨e,W,z,M,N.mono p d,O.mono p d⟩
 |dat t xs=>
  exact⟨(d.ty _ f).trans h.1,by rw[d.slv _ f];exact Rd.mono p d.I _ _ _ h.2⟩
 |bld T e bs=>
  obtain⟨b,i,j⟩:=h
  exact⟨b,(d.blk _ f).trans i,j.mono (by simp) G⟩
 |cel t l=>
  obtain⟨r,i,h⟩:=h;refine⟨(d.ty _ f).trans r,i,?_⟩;rcases h with ⟨i,j,n⟩|⟨b,cap,cs,e,X,i,k,j,n,s,A,u,C⟩
  ·exact .inl ⟨i,(d.blk _ f).trans j,(d.slv _ f).trans n⟩
  ·exact .inr ⟨b,cap,cs,e,X,(d.blk _ f).trans i,k,(d.slv _ f).trans j,(G b k).trans n,s,A,u.mono fun x c q=>⟨q.1.mono p d,q.2⟩,C⟩
theorem RH.same{B:Kd}{H:AH}{w w' :World}{g:Gh}{ow:Nat->Nat->Prop}(h:RH B H w g ow)(c:Jr w w'):RH B H w' g ow where
 objs:=fun id o f=>⟨(h.objs id o f).1,(h.objs id o f).2.mono (c.agree _) (.refl g) (h.objs id o f).1 rfl fun b _=>by rw[c.heap]⟩
 dist:=h.dist
 sep:=fun id b d e=>by rw[c.heap];exact h.sep id b d e
 ilt:=fun b i=>by rw[c.heap];exact h.ilt b i
 inew:=h.inew
 os:=c.os.trans h.os
 tape:=c.tape.trans h.tape
 output:=c.output.trans h.output
 size:=by rw[c.heap];exact h.size
 kept:=fun b d e=>by rw[c.heap];exact h.kept b d e
def Kc(H:AH)(id:Nat)(o:Option K0):AH:=fun k=>bif Vd k id then o else H k
theorem XM{H:AH}{id:Nat}{o:Option K0} :Kc H id o id=o:=by simp [Kc]
theorem Ky{H:AH}{id k:Nat}{o:Option K0}(h:k≠id):Kc H id o k=H k:=by
 have:Vd k id=false:=by
  cases b:Vd k id
  all_goals simp_all
 simp [Kc,this]
theorem DE{H:AH}{id k:Nat}(h:Kc H id none k≠none):k≠id/\H k≠none:=by
 by_cases b:k=id
 ·subst b;exact absurd XM h
 ·exact⟨b,by rwa [Ky b]at h⟩
theorem RH.drop{B:Kd}{H:AH}{w:World}{g:Gh}{ow:Nat->Nat->Prop}(h:RH B H w g ow)(id:Nat):RH B (Kc H id none) w g ow where
 objs:=fun k o d=>by have:=(DE (H:=H) (id:=id) (k:=k) (by grind)).1;rw[Ky this]at d;exact h.objs k o d
 dist:=fun k f b c e=>h.dist k f b (DE c).2 (DE e).2
 sep:=fun k b c=>h.sep k b (DE c).2
 ilt:=h.ilt
 inew:=h.inew
 os:=h.os
 tape:=h.tape
 output:=h.output
 size:=h.size
 kept:=h.kept
def Gh.add(g:Gh)(id:Nat)(t:Ty)(b:Option Nat)(v:Value)(r:(c:Ty)->El c->Value:=fun _ _=>.slice none 0 0):Gh where
 I:=g.I
 K:=fun k=>k=id\/g.K k
 ty:=fun k=>if k=id then t else g.ty k
 blk:=fun k=>if k=id then b else g.blk k
 slv:=fun k=>if k=id then v else g.slv k
 ver:=fun k=>if k=id then 0 else g.ver k
 row:=fun k=>if k=id then r else g.row k
theorem Gh.le_add{g:Gh}{id:Nat}(h:¬g.K id)(t:Ty)(b:Option Nat)(v:Value)(r:(d:Ty)->El d->Value:=fun _ _=>.slice none 0 0):g.Le (g.add id t b v r) where
 I:=fun _ h=>h
 K:=fun _ h=>.inr h
 ty:=fun k c=>Zf (by grind)
 blk:=fun k c=>Zf (by grind)
 slv:=fun k c=>Zf (by grind)
 ver:=fun k c=>Nat.le_of_eq (Zf (by grind)).symm
 row:=fun k c _=>Zf (by grind)
def Xm(ow:Nat->Nat->Prop)(id:Nat)(J:Nat->Prop):Nat->Nat->Prop:=fun k b=>if k=id then J b else ow k b
theorem JS{ow:Nat->Nat->Prop}{id:Nat}{J:Nat->Prop} :Xm ow id J id=J:=by funext b;simp [Xm]
theorem WV{ow:Nat->Nat->Prop}{id k:Nat}{J:Nat->Prop}(h:k≠id):Xm ow id J k=ow k:=by funext b;simp [Xm,h]
theorem RH.add{B:Kd}{H:AH}{w w' :World}{g:Gh}{ow:Nat->Nat->Prop}(h:RH B H w g ow){id:Nat}(G:¬g.K id){t:Ty}{b:Option Nat}{v:Value}{r:(N:Ty)->El N->Value}{o:K0}{J:Nat->Prop}
 (e:∀k,k<w.heap.size->w'.heap[k]? =w.heap[k]?) (M:w.heap.size<=w'.heap.size) (C:w'.os=w.os) (s:w'.tape=w.tape) (u:X2 w' w)
 (A:∀k,J k->¬g.I k/\k<w'.heap.size/\(B.own0 k\/B.w0.heap.size<=k)/\ ∀x,H x≠none->¬ow x k)
 (L:WF w' (g.add id t b v r) J id o):RH B (Kc H id (some o)) w' (g.add id t b v r) (Xm ow id J) where
 objs:=fun k O m=>by
  by_cases c:k=id
  ·subst c;rw[XM]at m;cases m;rw[JS];exact⟨.inl rfl,L⟩
  ·rw[Ky c]at m;obtain⟨j,f⟩:=h.objs k O m;rw[WV c];refine⟨.inr j,f.mono (fun b A=>e b (h.ilt b A)) (Gh.le_add G t b v r) j (Zf c) fun i n=>e i ?_⟩;exact(h.sep k i (by grind) n).2.1
 dist:=fun k D i j f y z=>by
  by_cases c:k=id<;>by_cases d:D=id
  ·omega
  ·subst c;rw[Ky d]at f;rw[JS]at y;rw[WV d]at z
   grind
  ·subst d;rw[Ky c]at j;rw[JS]at z;rw[WV c]at y
   grind
  ·rw[Ky c]at j;rw[Ky d]at f;rw[WV c]at y;rw[WV d]at z;exact h.dist k D i j f y z
 sep:=fun k i j f=>by
  by_cases c:k=id
  ·subst c;rw[JS]at f;obtain⟨p,q,r,_⟩:=A _ f;exact⟨p,q,r⟩
  ·rw[Ky c]at j;rw[WV c]at f;obtain⟨p,q,r⟩:=h.sep k i j f;exact⟨p,by omega,r⟩
 ilt:=fun i n=>by have:=h.ilt i n;omega
 inew:=h.inew
 os:=C.trans h.os
 tape:=s.trans h.tape
 output:=u.trans h.output
 size:=by have:=h.size;omega
 kept:=fun i j f=>(e i (by have:=h.size;omega)).trans (h.kept i j f)
theorem RH.write{B:Kd}{H:AH}{w w' :World}{g:Gh}{ow:Nat->Nat->Prop}(h:RH B H w g ow){id b:Nat}{z:K0}(s:H id≠none)(A:ow id b)
 (d:∀k,k≠b->w'.heap[k]? =w.heap[k]?) (q:w'.heap.size=w.heap.size) (y:w'.os=w.os) (r:w'.tape=w.tape) (u:X2 w' w)
 (K:WF w' g (ow id) id z):RH B (Kc H id (some z)) w' g ow:=by
 have D:=h.sep id b s A
 have c:∀k,Kc H id (some z) k≠none->H k≠none:=by
  intro k C;by_cases e:k=id
  ·grind
  ·rwa [Ky e]at C
 have x:Kj g.I w w' :=fun k C=>by grind
 exact {
  objs:=fun k o i=>by
   by_cases p:k=id
   ·subst p;rw[XM]at i;cases i
    cases J:H k with
    |none=>grind
    |some o=>exact⟨(h.objs k o J).1,K⟩
   ·rw[Ky p]at i;obtain⟨j,m⟩:=h.objs k o i;refine⟨j,m.mono x (.refl g) j rfl fun f n=>d f fun e=>p ?_⟩;exact h.dist k id b (by grind) s (e▸n) A
  dist:=fun k G f j m=>h.dist k G f (c k j) (c G m)
  sep:=fun k f j m=>by rw[q];exact h.sep k f (c k j) m
  ilt:=fun f n=>by rw[q];exact h.ilt f n
  inew:=h.inew
  os:=y.trans h.os
  tape:=r.trans h.tape
  output:=u.trans h.output
  size:=by rw[q];exact h.size
  kept:=fun f j m=>by rw[d f (by grind)];exact h.kept f j m}
theorem RH.putDat{B:Kd}{H:AH}{w:World}{g:Gh}{ow:Nat->Nat->Prop}(h:RH B H w g ow){id:Nat}{t:Ty}{xs:List (El t)}(p:g.K id)(r:g.ty id=t)(q:Rd w g.I (.sl t) xs [g.slv id]):
 RH B (Kc H id (some (.dat t xs))) w g (Xm ow id fun _=>False) where
 objs:=fun k o i=>by
  by_cases c:k=id
  ·subst c;rw[XM]at i;cases i;exact⟨p,r,q⟩
  ·rw[Ky c]at i;rw[WV c];exact h.objs k o i
 dist:=fun k n b f e j m=>by
  by_cases c:k=id
  ·subst c;rw[JS]at j;grind
  ·by_cases d:n=id
   ·subst d;rw[JS]at m;grind
   ·rw[Ky c]at f;rw[Ky d]at e;rw[WV c]at j;rw[WV d]at m;exact h.dist k n b f e j m
 sep:=fun k b f e=>by
  by_cases c:k=id
  ·subst c;rw[JS]at e;grind
  ·rw[Ky c]at f;rw[WV c]at e;exact h.sep k b f e
 ilt:=h.ilt
 inew:=h.inew
 os:=h.os
 tape:=h.tape
 output:=h.output
 size:=h.size
 kept:=h.kept
def Gh.grow(g:Gh)(J:Nat->Prop):Gh:= {g with I:=fun b=>g.I b\/J b}
theorem Gh.le_grow(g:Gh)(J:Nat->Prop):g.Le (g.grow J):=⟨fun _ h=>.inl h,fun _ h=>h,fun _ _=>rfl,fun _ _=>rfl,fun _ _=>rfl,fun _ _=>Vm _,fun _ _ _=>rfl⟩
theorem RH.grow{B:Kd}{H:AH}{w:World}{g:Gh}{ow:Nat->Nat->Prop}(h:RH B H w g ow){J:Nat->Prop}(j:∀b,J b->b<w.heap.size/\(B.I0 b\/B.own0 b\/B.w0.heap.size<=b)/\ ∀id,H id≠none->¬ow id b):RH B H w (g.grow J) ow where
 objs:=fun id o e=>⟨(h.objs id o e).1,(h.objs id o e).2.mono (fun _ _=>rfl) (g.le_grow J) (h.objs id o e).1 rfl (by simp)⟩
 dist:=h.dist
 sep:=fun id b f i=>⟨fun d=>by
  rcases d with d|d
  ·exact(h.sep id b f i).1 d
  grind,(h.sep id b f i).2⟩
 ilt:=fun b c=>by
  rcases c with c|c
  ·exact h.ilt b c
  grind
 inew:=fun b c=>by
  rcases c with c|c
  ·exact h.inew b c
  grind
 os:=h.os
 tape:=h.tape
 output:=h.output
 size:=h.size
 kept:=h.kept
theorem Zm6{w:World}{g:Gh}{ow:Nat->Prop}{id:Nat}{t:Ty}{xs:List (El t)}(h:WF w g ow id (.vec t xs)){I:Nat->Prop}(s:∀b,g.I b->I b)(u:∀b,ow b->I b):
 Rd w I (.sl t) xs [g.slv id]:=by
 obtain⟨C,A⟩:=h;rcases A with ⟨rfl,y,k⟩|⟨b,cap,cs,e,d,y,i,k,z,n,G,p,q⟩
 ·rw[k];exact⟨none,0,[],rfl,trivial,by simp,Vm _⟩
 ·rw[k];refine⟨some ⟨b,0,none⟩,cap,d,rfl,p.mono fun x c D=>Rd.mono (fun _ _=>rfl) s t x c D,fun _=>⟨b,0,rfl,u b i,?_⟩,n⟩;intro j J;obtain⟨r,K⟩:=q;have m:d.flatten.length<=cs.toList.length:=by grind
  simp only[Vy,z,Vu,Vj,if_false,Vja];have f:j<cs.size:=by grind
  rw[Vda f];congr 1;have:cs.toList[j]'(by omega)=d.flatten[j]:=by grind
  grind
theorem WH.data{w:World}{I J K:Nat->Prop}{t:Ty}{xs:List (El t)}{k:Value}(h:WH w I J t xs k)(s:∀b,I b->K b)(u:∀b,J b->K b):Rd w K (.sl t) xs [k]:=by
 rcases h with ⟨rfl,rfl⟩|⟨b,cap,cs,e,d,rfl,i,y,n,A,p,q⟩
 ·exact⟨none,0,[],rfl,trivial,by simp,Vm _⟩
 ·refine⟨some ⟨b,0,none⟩,cap,d,rfl,p.mono fun x c z=>Rd.mono (fun _ _=>rfl) s t x c z,fun _=>⟨b,0,rfl,u b i,?_⟩,n⟩;intro j C;obtain⟨r,D⟩:=q;have m:d.flatten.length<=cs.toList.length:=by grind
  simp only[Vy,y,Vu,Vj,if_false,Vja];have f:j<cs.size:=by grind
  rw[Vda f];congr 1;have:cs.toList[j]'(by omega)=d.flatten[j]:=by grind
  grind
theorem Zme{w:World}{g:Gh}{ow:Nat->Prop}{id:Nat}{t:Ty}{xs:List (List (El t))}{v:Nat}(h:WF w g ow id (.rows t xs v none)){I:Nat->Prop}(q:∀b,g.I b->I b)(k:∀b,ow b->I b):
 Rd w I (.sl (.sl t)) xs [g.slv id]:=by
 obtain⟨_,_,d,A⟩:=h;rcases A with ⟨rfl,r,f⟩|⟨b,cap,cs,e,r,c,f,s,p,D,G⟩
 ·rw[f];exact⟨none,0,[],rfl,trivial,by simp,Vm _⟩
 ·rw[f];refine⟨some ⟨b,0,none⟩,cap,(Vr xs.length).map fun i:Nat=>[g.row id (.int .i64) (i:Int)],rfl,?_,fun _=>⟨b,0,rfl,k b c,?_⟩,p⟩
  ·have key:∀(n:Nat) (l:List (List (El t))),(∀i x,l[i]? =some x->Rd w I (.sl t) x [g.row id (.int .i64) ((n+i:Nat):Int)])->Fa (Rd w I (.sl t)) l ((List.range' n l.length).map fun i:Nat=>[g.row id (.int .i64) (i:Int)]):=by
    intro n l
    induction l generalizing n with
    |nil=>intro _;trivial
    |cons x l m=>
     intro h;refine⟨by simpa using h 0 x rfl,?_⟩
     have:=m (n+1) fun i y K=>by
      have:=h (i+1) y (by grind)
      grind
     omega
   have:=key 0 xs fun i x C=>by rw[Vja];exact(d.rd i x C (by simp)).data q k
   simpa [List.range_eq_range'] using this
  ·intro j J
   have u:((Vr xs.length).map fun i:Nat=>[g.row id (.int .i64) (i:Int)]).flatten=(Vr xs.length).map fun i:Nat=>g.row id (.int .i64) (i:Int):=by
    generalize xs.length=n
    induction n with
    |zero=>rfl
    |succ n m=>rw[List.range_succ];grind
   have z:j<xs.length:=by grind
   simp only[Vy,s,Vu,Vj,if_false,Vja]
   grind
end Tr
end
section
namespace Tr
open Go
inductive Zw (α:Type):Type 1 where
 |ret (a:α)
 |fail
 |getH (id:Nat) (k:Option K0->Zw α)
 |opt {β:Type} (o:Option β) (k:β->Zw α)
 |bool (b:Bool) (k:Bool->Zw α)
def Zw.bind{α β:Type} :Zw α->(α->Zw β)->Zw β
 |.ret a,f=>f a
 |.fail,_=>.fail
 |.getH id k,f=>.getH id fun o=>(k o).bind f
 |.opt o k,f=>.opt o fun b=>(k b).bind f
 |.bool b k,f=>.bool b fun c=>(k c).bind f
def Zw.runK{α ρ:Type}(H:AH):Zw α->List Nat->(α->List Nat->Option ρ)->Option ρ
 |.ret a,l,k=>k a l
 |.fail,_,_=>none
 |.getH id f,l,k=>(f (H id)).runK H (id::l) k
 |.opt o f,l,k=>o.bind fun b=>(f b).runK H l k
 |.bool b f,l,k=>bif b then(f true).runK H l k else(f false).runK H l k
def Zw.run{α:Type}(H:AH):Zw α->List Nat->Option (α×List Nat)
 |.ret a,l=>some (a,l)
 |.fail,_=>none
 |.getH id f,l=>(f (H id)).run H (id::l)
 |.opt o f,l=>o.bind fun b=>(f b).run H l
 |.bool b f,l=>(f b).run H l
theorem Zw.runK_eq{α ρ:Type}(H:AH)(k:α->List Nat->Option ρ)(a:Zw α)(l:List Nat):a.runK H l k=(a.run H l).bind fun r=>k r.1 r.2:=by
 induction a generalizing l with
 |ret a=>rfl
 |fail=>rfl
 |getH id f c=>exact c _ _
 |opt o f c=>
  cases o with
  |none=>rfl
  |some b=>exact c _ _
 |bool b f c=>cases b<;>exact c _ _
theorem Zw.run_bind{α β:Type}(H:AH)(f:α->Zw β)(a:Zw α)(l:List Nat):(a.bind f).run H l=(a.run H l).bind fun r=>(f r.1).run H r.2:=by
 induction a generalizing l with
 |ret a=>rfl
 |fail=>rfl
 |getH id k c=>exact c _ _
 |opt o k c=>
  cases o with
  |none=>rfl
  |some b=>exact c _ _
 |bool b k c=>exact c _ _
theorem Zw.run_local{α:Type}{H H' :AH}(a:Zw α)(l:List Nat)(r:α)(l' :List Nat)(h:a.run H l=some (r,l')):
 ∃m,l' =m++l/\((∀id∈m,H' id=H id)->a.run H' l=some (r,l')):=by
 induction a generalizing l with
 |ret a=>
  simp only[Zw.run,Option.some.injEq,Va]at h
  exact⟨[],by simp [h.2],fun _=>by simp [Zw.run,h.1,h.2]⟩
 |fail=>simp [Zw.run]at h
 |getH id k c=>
  simp only[Zw.run]at h;obtain⟨m,e,f⟩:=c _ _ h;refine⟨m++[id],by simp [e],fun d=>?_⟩;simp only[Zw.run];rw[d id (by simp)]
  exact f fun i j=>d i (by simp [j])
 |opt o k c=>
  cases o with
  |none=>simp [Zw.run]at h
  |some b=>
   simp only[Zw.run,Za]at h⊢
   exact c _ _ h
 |bool b k c=>
  simp only[Zw.run]at h⊢;exact c _ _ h
def Kw(t b:Ty)(x:El t):Option (El b):=if h:t=b then some (h▸x) else none
def Zo(i:Int)(n:Nat):Option Nat:=if 0<=i/\i<n then some i.toNat else none
def idx{α:Type}(xs:List α)(i:Int):Option α:=if 0<=i then xs[i.toNat]? else none
def ZD(b:Bool):Option Unit:=bif b then some () else none
abbrev DV:=(t:Ty) ×El t
def Yb:(t:Ty)->El t->List Nat->Zw DV
 |t,x,[]=>.ret ⟨t,x⟩
 |.prod a b,x,i::p=>match i with
  |0=>Yb a x.1 p
  |n+1=>Yb b x.2 (n::p)
 |.arr _ t,x,i::p=>.opt x[i]? fun y=>Yb t y p
 |_,_,_::_=>.fail
def Xe:(t:Ty)->El t->List Nat->DV->Zw (El t)
 |t,_,[],y=>.opt (Kw y.1 t y.2) .ret
 |.prod a b,x,i::p,y=>match i with
  |0=>(Xe a x.1 p y).bind fun z=>.ret (z,x.2)
  |n+1=>(Xe b x.2 (n::p) y).bind fun z=>.ret (x.1,z)
 |.arr _ t,x,i::p,y=>.opt x[i]? fun e=>(Xe t e p y).bind fun z=>.ret (x.set i z)
 |_,_,_::_,_=>.fail
def Ya:(t:Ty)->El t->Zq
 |.prod a b,x=>.cons (.d a x.1) (Ya b x.2)
 |_,_=>.nil
mutual
def H8:AV->List Nat->Zw AV
 |v,[]=>.ret v
 |.d t x,p=>(Yb t x p).bind fun y=>.ret (.d y.1 y.2)
 |.agg l,n::p=>ZaV l n p
 |_,_::_=>.fail
def ZaV:Zq->Nat->List Nat->Zw AV
 |.cons v _,0,p=>H8 v p
 |.cons _ l,n+1,p=>ZaV l n p
 |.nil,_,_=>.fail
end
def AV.dv? :AV->Option DV
 |.d t x=>some ⟨t,x⟩
 |_=>none
def Hg:Ty->Zq->Nat->List Nat->AV->Zw Zq
 |.prod a _,.cons u l,0,p,v=>(match p,u with
  |[],_=>bif v.fits a then .ret (.cons v l) else .fail
  |p,.d t x=>(match v with
   |.d c y=>(Xe t x p ⟨c,y⟩).bind fun z=>.ret (.cons (.d t z) l)
   |_=>.fail)
  |_,_=>.fail)
 |.prod _ b,.cons u l,n+1,p,v=>(Hg b l n p v).bind fun m=>.ret (.cons u m)
 |_,_,_,_,_=>.fail
def Dy(t:Ty)(c:AV)(p:List Nat)(v:AV):Zw AV:=
 match p with
 |[]=>bif v.fits t then .ret v else .fail
 |n::q=>match c with
  |.agg l=>(Hg t l n q v).bind fun m=>.ret (.agg m)
  |.d b x=>(match v with
   |.d e y=>(Xe b x (n::q) ⟨e,y⟩).bind fun z=>.ret (.d b z)
   |v=>bif (Ya b x).fits t then(Hg t (Ya b x) n q v).bind fun l=>.ret (.agg l) else .fail)
  |_=>.fail
end Tr
end
section
namespace Tr
open Go
def Ty.dep:Ty->Nat
 |.prod a b=>max (a.dep+1) b.dep
 |.arr _ t=>t.dep+1
 |.sl t=>t.dep+1
 |_=>1
def eqEl:(t:Ty)->El t->El t->Option Bool
 |.int _,x,y=>some (decide (x=y))
 |.bool,x,y=>some (x==y)
 |.str,x,y=>some (decide (x=y))
 |.unit,_,_=>some true
 |.prod a .unit,x,y=>eqEl a x.1 y.1
 |.prod a b,x,y=>(eqEl a x.1 y.1).bind fun p=>(eqEl b x.2 y.2).bind fun q=>some (p&&q)
 |.arr _ t,x,y=>(eqs (eqEl t) x y)
 |_,_,_=>none
where eqs {α:Type} (f:α->α->Option Bool):List α->List α->Option Bool
 |[],[]=>some true
 |a::l,b::m=>(f a b).bind fun p=>(eqs f l m).bind fun q=>some (p&&q)
 |_,_=>none
def ZI{α β:Type}(eq:α->α->Bool)(k:α):List (α×β)->Option β
 |[]=>none
 |e::l=>bif eq k e.1 then some e.2 else ZI eq k l
def amPos{α β:Type}(eq:α->α->Bool)(k:α):List (α×β)->Nat
 |[]=>0
 |e::l=>bif eq k e.1 then 0 else amPos eq k l+1
def ZZ{α β:Type}(eq:α->α->Bool)(k:α)(v:β):List (α×β)->List (α×β)
 |[]=>[(k,v)]
 |e::l=>bif eq k e.1 then(k,v)::l else e::ZZ eq k v l
def Zj(t:Ty)(x y:El t):Bool:=(eqEl t x y).getD false
def Ty.key:Ty->Bool
 |.int _=>true
 |.bool=>true
 |.str=>true
 |.unit=>true
 |.prod a b=>a.key&&b.key
 |.arr _ t=>t.key
 |_=>false
def Ty.keyOk(t:Ty):Bool:=t.key&&Vba t.dep 100
mutual
inductive Zy where
 |pd (t:Ty)
 |own (t:Ty) (keep:Bool)
 |var (t:Ty) (p:Zy)
 |ro (t:Ty)
 |map (b c:Ty)
 |rows (t:Ty) (keep:Bool)
 |mrows (b t:Ty)
 |it (b c:Ty)
 |bld (T e:TypeId) (keep:Bool)
 |agg (l:Pats)
 |fn (f:FuncId) (l:Pats)
 |nilr
 |nils
 |any
inductive Pats where
 |nil
 |cons (p:Zy) (l:Pats)
end
mutual
@[reducible] def WO:Zy->Type
  |.pd t=>El t
  |.own t _=>List (El t)
  |.var _ p=>WO p
  |.ro t=>El t
  |.map b c=>List (El b×El c)
  |.rows t _=>List (List (El t))
  |.mrows b t=>List (El b×List (El t))
  |.it b c=>List (El b×El c)
  |.bld _ _ _=>List UInt8
  |.agg l=>KJ l
  |.fn _ l=>KJ l
  |.nilr=>Unit
  |.nils=>Unit
  |.any=>Unit
@[reducible] def KJ:Pats->Type
  |.nil=>Unit
  |.cons p l=>WO p×KJ l
end
mutual
@[reducible] def HE:Zy->Type
  |.own t true=>List (El t)
  |.var _ p=>WO p
  |.map b c=>List (El b×El c)
  |.rows t true=>List (List (El t))
  |.mrows b t=>List (El b×List (El t))
  |.bld _ _ true=>List UInt8
  |.agg l=>WB l
  |.fn _ l=>WB l
  |_=>Unit
@[reducible] def WB:Pats->Type
  |.nil=>Unit
  |.cons p l=>HE p×WB l
end
def YB(id ver:Nat)(c:Ty)(k:El c):Zw ((t:Ty) ×List (El t)):=
 .getH id fun
  |some (.rows t xs v none)=>bif Vd v ver then .opt (Kw c (.int .i64) k) fun i=>.opt (idx xs i) fun x=>.ret ⟨t,x⟩ else .fail
  |some (.mrows b t m v none)=>bif Vd v ver&&b.keyOk then .opt (Kw c b k) fun d=>.ret ⟨t,(ZI (Zj b) d m).getD []⟩ else .fail
  |_=>.fail
abbrev Zac(a b:Ty):Ty:=.prod a (.prod (.lk a b) b)
mutual
def Kl:(t:Ty)->AV->Zw (El t×List Nat)
 |t,.d c x=>.opt (Kw c t x) fun y=>.ret (y,[])
 |.sl _,.nils=>.ret ([],[])
 |.sl t,.vw id=>.getH id fun
  |some (.vec c xs)=>.opt (Kw (.sl c) (.sl t) xs) fun y=>.ret (y,[id])
  |some (.rows c xs _ none)=>.opt (Kw (.sl (.sl c)) (.sl t) xs) fun y=>.ret (y,[id])
  |some (.dat c xs)=>.opt (Kw (.sl c) (.sl t) xs) fun y=>.ret (y,[])
  |_=>.fail
 |.sl t,.nw id ver e k=>(YB id ver e k).bind fun r=>.opt (Kw (.sl r.1) (.sl t) r.2) fun y=>.ret (y,[id])
 |.sl t,.vs id lo n=>.getH id fun
  |some (.vec c xs)=>.opt (Kw (.sl c) (.sl t) xs) fun y=>.ret ((y.drop lo).take n,[id])
  |_=>.fail
 |t,.agg l=>XV t l
 |.pt _,.nilr p=>bif p then .ret (none,[]) else .fail
 |.pt t,.ptr id p=>bif p.isEmpty then .getH id fun
  |some (.var _ (.d c x))=>.opt (Kw c t x) fun y=>.ret (some y,[id])
  |_=>.fail else .fail
 |.lk _ _,.nilr p=>bif p then .ret ([],[]) else .fail
 |.lk a b,.dp c x=>.opt (Kw c (Zac a b) x) fun y=>.ret ((y.1,y.2.2)::y.2.1,[])
 |.lk a b,.ptr id p=>bif p.isEmpty then .getH id fun
  |some (.var _ (.d c x))=>.opt (Kw c (Zac a b) x) fun y=>.ret ((y.1,y.2.2)::y.2.1,[id])
  |_=>.fail else .fail
 |.pn _,.nilr p=>bif p then .ret (none,[]) else .fail
 |_,_=>.fail
def XV:(t:Ty)->Zq->Zw (El t×List Nat)
 |.unit,.nil=>.ret ((),[])
 |.prod a b,.cons v l=>(Kl a v).bind fun x=>(XV b l).bind fun y=>.ret ((x.1,y.1),x.2++y.2)
 |_,_=>.fail
end
def Zi4(l:List Int):List UInt8:=l.map fun n=>UInt8.ofNat n.toNat
def G5(t:Ty)(x:AV):Zw (List (El t) ×List Nat):=
 match x with
 |.vw id=>.getH id fun
  |some (.rows _ _ _ _)=>.fail
  |_=>Kl (.sl t) (.vw id)
 |x=>Kl (.sl t) x
def Xb(t:Ty)(v:AV):Zw (List (El t) ×List Nat):=
 match v with
 |.vw id=>.getH id fun
  |some (.vec b xs)=>.opt (Kw (.sl b) (.sl t) xs) fun y=>.ret (y,[id])
  |_=>.fail
 |.vs id 0 n=>.getH id fun
  |some (.vec b xs)=>.opt (Kw (.sl b) (.sl t) xs) fun y=>.ret (y.take n,[id])
  |_=>.fail
 |.nils=>.ret ([],[])
 |_=>.fail
def Gc(t:Ty)(v:AV):Zw (List (List (El t)) ×List Nat):=
 match v with
 |.vw id=>.getH id fun
  |some (.rows b xs _ none)=>.opt (Kw (.sl (.sl b)) (.sl (.sl t)) xs) fun y=>.ret (y,[id])
  |_=>.fail
 |.nils=>.ret ([],[])
 |_=>.fail
structure ZG where
 tk:List Nat
 br:List Nat
def ZG.none:ZG:=⟨[],[]⟩
def ZG.app(a b:ZG):ZG:=⟨a.tk++b.tk,a.br++b.br⟩
mutual
def Zy.fits:Zy->Ty->Bool
 |.pd c,t=>c==t
 |.own c _,.sl t=>c==t
 |.rows c _,.sl (.sl t)=>c==t
 |.mrows _ _,.ref=>true
 |.it _ _,.ref=>true
 |.bld _ _ _,.ref=>true
 |.var _ _,.ref=>true
 |.ro _,.ref=>true
 |.map _ _,.ref=>true
 |.fn _ _,.ref=>true
 |.nilr,.ref=>true
 |.nils,.sl _=>true
 |.agg l,t=>l.fits t
 |_,_=>false
def Pats.fits:Pats->Ty->Bool
 |.nil,.unit=>true
 |.cons p l,.prod a b=>p.fits a&&l.fits b
 |_,_=>false
end
mutual
def ext:(p:Zy)->AV->Zw (WO p×ZG)
 |.pd t,v=>(Kl t v).bind fun r=>.ret (r.1,⟨[],r.2⟩)
 |.own t _,v=>(Xb t v).bind fun r=>.ret (r.1,⟨r.2,[]⟩)
 |.var t p,v=>(match v with
  |.ptr id []=>.getH id fun
   |some (.var b c)=>bif b==t&&p.fits t then(ext p c).bind fun r=>.ret (r.1,⟨id::r.2.tk,r.2.br⟩) else .fail
   |_=>.fail
  |_=>.fail)
 |.ro t,v=>(match v with
  |.ptr id []=>.getH id fun
   |some (.var _ (.d b x))=>.opt (Kw b t x) fun y=>.ret (y,⟨[],[id]⟩)
   |_=>.fail
  |.dp b x=>.opt (Kw b t x) fun y=>.ret (y,ZG.none)
  |_=>.fail)
 |.map i j,v=>(match v with
  |.mp id=>.getH id fun
   |some (.map k e m)=>.opt (Kw (.sl (.prod k e)) (.sl (.prod i j)) m) fun y=>.ret (y,⟨[id],[]⟩)
   |_=>.fail
  |_=>.fail)
 |.rows t _,v=>(Gc t v).bind fun r=>.ret (r.1,⟨r.2,[]⟩)
 |.mrows i t,v=>(match v with
  |.mp id=>.getH id fun
   |some (.mrows k b m _ none)=>.opt (Kw (.sl (.prod k (.sl b))) (.sl (.prod i (.sl t))) m) fun y=>.ret (y,⟨[id],[]⟩)
   |_=>.fail
  |_=>.fail)
 |.it i j,v=>(match v with
  |.ptr id []=>.getH id fun
   |some (.rng k e m _)=>.opt (Kw (.sl (.prod k e)) (.sl (.prod i j)) m) fun y=>.ret (y,⟨[id],[]⟩)
   |_=>.fail
  |_=>.fail)
 |.bld T e _,v=>(match v with
  |.ptr id []=>.getH id fun
   |some (.bld n s q)=>bif Vd n T&&Vd s e then .ret (q,⟨[id],[]⟩) else .fail
   |_=>.fail
  |_=>.fail)
 |.agg l,v=>(match v with
  |.agg vs=>Wx l vs
  |.d t x=>bif (Ya t x).fits t then Wx l (Ya t x) else .fail
  |_=>.fail)
 |.fn f l,v=>(match v with
  |.fn u h=>bif Vd u f then Wx l h else .fail
  |_=>.fail)
 |.nilr,v=>(match v with
  |.nilr _=>.ret ((),ZG.none)
  |_=>.fail)
 |.nils,v=>(match v with
  |.nils=>.ret ((),ZG.none)
  |_=>.fail)
 |.any,_=>.ret ((),ZG.none)
def Wx:(l:Pats)->Zq->Zw (KJ l×ZG)
 |.nil,.nil=>.ret ((),ZG.none)
 |.cons p l,.cons v vs=>(ext p v).bind fun x=>(Wx l vs).bind fun y=>.ret ((x.1,y.1),x.2.app y.2)
 |_,_=>.fail
end
mutual
def inj:(p:Zy)->WO p->Nat->AV×List (Nat×K0) ×Nat
 |.pd t,x,n=>(.d t x,[],n)
 |.own t _,x,n=>(.vw n,[(n,.vec t x)],n+1)
 |.var t p,x,n=>let r:=inj p x (n+1);(.ptr n [],(n,.var t r.1)::r.2.1,r.2.2)
 |.ro t,x,n=>(.dp t x,[],n)
 |.map b c,x,n=>(.mp n,[(n,.map b c x)],n+1)
 |.rows t _,x,n=>(.vw n,[(n,.rows t x 0 none)],n+1)
 |.mrows b t,x,n=>(.mp n,[(n,.mrows b t x 0 none)],n+1)
 |.it b c,x,n=>(.ptr n [],[(n,.rng b c x none)],n+1)
 |.bld T e _,x,n=>(.ptr n [],[(n,.bld T e x)],n+1)
 |.agg l,x,n=>let r:=KM l x n;(.agg r.1,r.2)
 |.fn f l,x,n=>let r:=KM l x n;(.fn f r.1,r.2)
 |.nilr,_,n=>(.nilr false,[],n)
 |.nils,_,n=>(.nils,[],n)
 |.any,_,n=>(.junk,[],n)
def KM:(l:Pats)->KJ l->Nat->Zq×List (Nat×K0) ×Nat
 |.nil,_,n=>(.nil,[],n)
 |.cons p l,x,n=>let r:=inj p x.1 n;let s:=KM l x.2 r.2.2;(.cons r.1 s.1,r.2.1++s.2.1,s.2.2)
end
mutual
def Ko:(p:Zy)->AV->HE p->Nat->List (Nat×Option K0) ×Nat
 |.own t true,.vw id,x,n=>([(id,some (.vec t x))],n)
 |.var t p,.ptr id [],x,n=>let r:=inj p x n;((id,some (.var t r.1))::r.2.1.map fun o=>(o.1,some o.2),r.2.2)
 |.map b c,.mp id,x,n=>([(id,some (.map b c x))],n)
 |.rows t true,.vw id,x,n=>([(id,some (.rows t x n none))],n)
 |.mrows b t,.mp id,x,n=>([(id,some (.mrows b t x n none))],n)
 |.bld T e true,.ptr id [],x,n=>([(id,some (.bld T e x))],n)
 |.agg l,.agg vs,x,n=>JK l vs x n
 |.fn _ l,.fn _ vs,x,n=>JK l vs x n
 |_,_,_,n=>([],n)
def JK:(l:Pats)->Zq->WB l->Nat->List (Nat×Option K0) ×Nat
 |.nil,_,_,n=>([],n)
 |.cons p l,.cons v vs,x,n=>let r:=Ko p v x.1 n;let s:=JK l vs x.2 r.2;(r.1++s.1,s.2)
 |.cons _ _,.nil,_,n=>([],n)
end
structure Spec where
 args:Pats
 res:Pats
 fns:List FuncId
 α:Type
 f:KJ args->Option α
 unp:α->WB args×KJ res
 pl:Bool:=true
 kp:List (Nat×Nat×Nat):=[]
abbrev KB:=List (Nat×Option K0)
structure Km where
 ty:TypeId->Option Ty
 mty:TypeId->Option (Ty×Ty)
 rw:TypeId->Bool:=fun _=>false
 zx:TypeId->Bool:=fun _=>false
 bd:TypeId->Option TypeId:=fun _=>none
 pk:TypeId->Nat:=fun _=>0
 specs:FuncId->List Spec
 nt:Nat
 ks:List Nat
 pz:TypeId->Bool:=fun _=>false
 st:Nat:=0
 inl:FuncId->Option (Nat->Zq->Zw (AV×KB)):=fun _=>none
def Km.stp(E:Km):Nat:=E.st+64
def KX(n:Nat):List Nat->Bool
 |[]=>false
 |k::l=>Vd n k||KX n l
def HP:List Nat->Bool
 |[]=>true
 |n::l=> !KX n l&&HP l
def J7:List Nat->List Nat->Bool
 |[],_=>true
 |n::l,m=> !KX n m&&J7 l m
def ZG.ok(i:ZG)(fz:List Nat):Bool:=HP i.tk&&J7 i.br i.tk&&J7 i.tk fz
def Ty.flat:Ty->Bool
 |.sl _=>false
 |.ref=>false
 |.pt _=>false
 |.lk _ _=>false
 |.pn _=>false
 |.prod a b=>a.flat&&b.flat
 |.arr _ t=>t.flat
 |_=>true
mutual
def Zy.flat:Zy->Bool
 |.pd t=>t.flat
 |.own t _=>t.flat
 |.var _ p=>p.flat
 |.ro _=>false
 |.map b c=>b.flat&&c.flat
 |.rows t _=>t.flat
 |.mrows b t=>b.flat&&t.flat
 |.it b c=>b.flat&&c.flat
 |.bld _ _ _=>true
 |.agg l=>l.flat
 |.fn _ l=>l.flat
 |.nilr=>true
 |.nils=>true
 |.any=>true
def Pats.flat:Pats->Bool
 |.nil=>true
 |.cons p l=>p.flat&&l.flat
end
mutual
def Zy.oflat:Zy->Bool
 |.own t k=> !k||t.flat
 |.var _ p=>p.flat
 |.map b c=>b.flat&&c.flat
 |.rows t k=> !k||t.flat
 |.mrows b t=>b.flat&&t.flat
 |.agg l=>l.oflat
 |.fn _ l=>l.oflat
 |_=>true
def Pats.oflat:Pats->Bool
 |.nil=>true
 |.cons p l=>p.oflat&&l.oflat
end
mutual
def Zy.sz:Zy->Nat
 |.pd t=>t.size
 |.agg l=>l.sz
 |_=>1
def Pats.sz:Pats->Nat
 |.nil=>0
 |.cons p l=>p.sz+l.sz
end
mutual
def Zy.noAny:Zy->Bool
 |.any=>false
 |.var _ p=>p.noAny
 |.agg l=>l.noAny
 |.fn _ l=>l.noAny
 |_=>true
def Pats.noAny:Pats->Bool
 |.nil=>true
 |.cons p l=>p.noAny&&l.noAny
end
def Pats.wf:Pats->Bool
 |.nil=>true
 |.cons .any l=>l.wf
 |.cons p l=>p.noAny&&l.wf
def Zq.ofList:List AV->Zq
 |[]=>.nil
 |v::l=>.cons v (Zq.ofList l)
def Zq.app:Zq->Zq->Zq
 |.nil,m=>m
 |.cons v l,m=>.cons v (l.app m)
def Zq.nth:Zq->Nat->Option AV
 |.nil,_=>none
 |.cons v _,0=>some v
 |.cons _ l,n+1=>l.nth n
def Zb6:Zq->List FuncId
 |.nil=>[]
 |.cons (.fn f _) l=>f::Zb6 l
 |.cons _ l=>Zb6 l
def ZmT:Zq->AV
 |.cons v .nil=>v
 |l=>.tup l
def Ws:Nat:=64
def Zbu(n:Nat):List Nat->Zw Unit
 |[]=>.ret ()
 |id::l=>.getH id fun
  |some (.rows _ _ v _)=>bif Vv v n then Zbu n l else .fail
  |some (.mrows _ _ _ v _)=>bif Vv v n then Zbu n l else .fail
  |_=>Zbu n l
def Dd:List Nat->Zw KB
 |[]=>.ret []
 |id::l=>.getH id fun
  |some (.vec t xs)=>(Dd l).bind fun p=>.ret ((id,some (.dat t xs))::p)
  |some (.rows t xs _ none)=>(Dd l).bind fun p=>.ret ((id,some (.dat (.sl t) xs))::p)
  |_=>Dd l
def ZfP(S:Spec)(nid:Nat)(b:Zq):Zw (AV×KB):=
 (Wx S.args b).bind fun r=>
   .opt (ZD (r.2.ok [])) fun _=>(Zbu nid r.2.tk).bind fun _=>(bif S.res.flat&&S.args.oflat then .ret [] else Dd r.2.br).bind fun ds=>
    .opt (S.f r.1) fun z=>
     let y:=S.unp z
     let p:=JK S.args b y.1 nid
     let q:=KM S.res y.2 p.2
     .opt (ZD (Vba q.2.2 (nid+Ws))) fun _=>.ret (ZmT q.1,(r.2.tk.map fun id=>(id,none))++(bif S.res.flat&&S.args.oflat then [] else r.2.br.map fun id=>(id,none))++p.1++(q.2.1.map fun o=>(o.1,some o.2))++ds)
def GF(id:Nat):KB->Option (Option K0)
 |[]=>none
 |p::l=>match GF id l with
  |some o=>some o
  |none=>bif Vd p.1 id then some p.2 else none
def Zq.putNth:Zq->Nat->AV->Zq
 |.nil,_,_=>.nil
 |.cons _ l,0,v=>.cons v l
 |.cons u l,n+1,v=>.cons u (l.putNth n v)
def Rl:Ty->Nat->Nat
 |.prod a b,n+1=>a.size+Rl b n
 |_,_=>0
def Zgw(e:Zq)(k:Nat×Nat×Nat)(p:KB):Zw KB:=
 match e.nth k.1 with
 |some (.ptr b [])=>.getH b fun
  |some (.var T (.agg c))=>(match c.nth k.2.1 with
   |some (.vw d)=>.getH d fun
    |some (.vec t _)=>(match GF b p with
     |some (some (.var f (.agg h)))=>(match h.nth k.2.1 with
      |some (.vw nid)=>(match GF nid p with
       |some (some (.vec i xs))=>bif i==t&&f==T&&Vd (Rl T k.2.1) k.2.2&& !Vd nid b&& !Vd d b then .ret (p++[(nid,none),(b,none),(d,some (.vec i xs)),(b,some (.var f (.agg (h.putNth k.2.1 (.vw d)))))]) else .fail
       |_=>.fail)
      |_=>.fail)
     |_=>.fail)
    |_=>.fail
   |_=>.fail)
  |_=>.fail
 |_=>.fail
def Zck(b:Zq):List (Nat×Nat×Nat)->KB->Zw KB
 |[],p=>.ret p
 |k::l,p=>(Zgw b k p).bind fun q=>Zck b l q
def Zds(S:Spec)(nid:Nat)(b:Zq):Zw (AV×KB):=
 (ZfP S nid b).bind fun r=>(Zck b S.kp r.2).bind fun p=>.ret (r.1,p)
def ZaG(nid:Nat)(c:Zq):List Spec->Zw (AV×KB)
 |[]=>.fail
 |[S]=>Zds S nid c
 |S::l=>(Wx S.args c).bind fun r=>.bool (S.f r.1).isSome fun b=>bif b then Zds S nid c else ZaG nid c l
def D8(fns:List FuncId):List Spec->List Spec
 |[]=>[]
 |S::l=>bif S.fns==fns then S::D8 fns l else D8 fns l
def Zdn:Value->AV
 |.bool b=>.d .bool b
 |.int k n=>.d (.int k) n
 |.string s=>.d .str s.data.toList
 |.pointer none=>.nilr true
 |.nilFunc=>.nilr false
 |.map none=>.nilr false
 |.slice none 0 0=>.nils
 |_=>.junk
def ZB(F:Nat->AV):Operand->AV
 |.tmp t=>F t
 |.const v=>Zdn v
 |.global _=>.junk
 |.func f=>.fn f .nil
def Zha(k:IntKind)(x y:Int):Option Int:=if y=0 then none else some (k.wrap (x.tdiv y))
def Zhb(x y:Int):Option Int:=if y=0 then none else some (x.tmod y)
def GK(k:IntKind)(x y:Int):Option Int:=if y<0 then none else some (k.wrap (x*2 ^ (min y.toNat k.bits)))
def Zcz(k:IntKind)(x y:Int):Option Int:=if y<0 then none else some (x.fdiv (2 ^ (min y.toNat k.bits)))
def ZF(k:IntKind)(x y:Int):Int:=k.wrap (Vo k.bits x &&& Vo k.bits y).toNat
def Wt(k:IntKind)(x y:Int):Int:=k.wrap (Vo k.bits x ||| Vo k.bits y).toNat
def ZsR(k:IntKind)(x y:Int):Int:=k.wrap (Vo k.bits x ^^^ Vo k.bits y).toNat
def qandNot(k:IntKind)(x y:Int):Int:=k.wrap (Vo k.bits x &&& ~~~ Vo k.bits y).toNat
def imin(x y:Int):Int:=if y<x then y else x
def imax(x y:Int):Int:=if x<y then y else x
def RM(op:BinOp)(k:IntKind)(x y:Int):Zw AV:=
 match op with
 |.add=>.ret (.d (.int k) (k.wrap (x+y)))
 |.sub=>.ret (.d (.int k) (k.wrap (x - y)))
 |.mul=>.ret (.d (.int k) (k.wrap (x*y)))
 |.quo=>.opt (Zha k x y) fun z=>.ret (.d (.int k) z)
 |.rem=>.opt (Zhb x y) fun z=>.ret (.d (.int k) z)
 |.and=>.ret (.d (.int k) (ZF k x y))
 |.or=>.ret (.d (.int k) (Wt k x y))
 |.xor=>.ret (.d (.int k) (ZsR k x y))
 |.andNot=>.ret (.d (.int k) (qandNot k x y))
 |.shl=>.opt (GK k x y) fun z=>.ret (.d (.int k) z)
 |.shr=>.opt (Zcz k x y) fun z=>.ret (.d (.int k) z)
 |.eql=>.ret (.d .bool (decide (x=y)))
 |.neq=>.ret (.d .bool (!decide (x=y)))
 |.lss=>.ret (.d .bool (decide (x<y)))
 |.leq=>.ret (.d .bool (decide (x<=y)))
 |.gtr=>.ret (.d .bool (decide (y<x)))
 |.geq=>.ret (.d .bool (decide (y<=x)))
def Zjc(x y:List UInt8):Option (List UInt8):=bif decide (x.length+y.length<2 ^ 62) then some (x++y) else none
def ZfE(op:BinOp)(x y:List UInt8):Zw AV:=
 match op with
 |.add=>.opt (Zjc x y) fun z=>.ret (.d .str z)
 |.eql=>.ret (.d .bool (decide (x=y)))
 |.neq=>.ret (.d .bool (!decide (x=y)))
 |.lss=>.ret (.d .bool (Op.bytesLess x y))
 |.gtr=>.ret (.d .bool (!(Op.bytesLess x y||decide (x=y))))
 |.leq=>.ret (.d .bool (Op.bytesLess x y||decide (x=y)))
 |.geq=>.ret (.d .bool (!Op.bytesLess x y))
 |_=>.fail
def Zkj:AV->Bool
 |.dp _ _=>true
 |.ptr _ _=>true
 |.vp _ _ _=>true
 |.np _ _ _ _ _ _=>true
 |.mp _=>true
 |.fn _ _=>true
 |_=>false
def Zfo(θ:TypeId->Option Ty)(T:TypeId)(op:BinOp)(x y:AV):Zw AV:=
 match x,y with
 |.d (.int k) a,.d (.int e) b=>(match op with
  |.shl=>RM .shl k a b
  |.shr=>RM .shr k a b
  |op=>bif k==e then RM op k a b else .fail)
 |.d .str a,.d .str b=>ZfE op a b
 |.d t a,.d c b=>(match op with
  |.eql=>bif θ T==some t&&Vba t.dep 100 then .opt (Kw c t b) fun b=>.opt (eqEl t a b) fun r=>.ret (.d .bool r) else .fail
  |.neq=>bif θ T==some t&&Vba t.dep 100 then .opt (Kw c t b) fun b=>.opt (eqEl t a b) fun r=>.ret (.d .bool (!r)) else .fail
  |_=>.fail)
 |_,_=>.fail
def Zef(k:Nat)(v:AV)(y:Operand):Bool:=match y with
 |.const (.pointer none)=>Vd k 1&& (match v with|.ptr _ _=>true|_=>false)
 |.const .nilFunc=>Vd k 2&& (match v with|.fn _ _=>true|_=>false)
 |.const (.map none)=>Vd k 3&& (match v with|.mp _=>true|_=>false)
 |_=>false
def aun(op:UnOp)(x:AV):Zw AV:=
 match op,x with
 |.not,.d .bool b=>.ret (.d .bool (!b))
 |.neg,.d (.int k) n=>.ret (.d (.int k) (k.wrap (0 - n)))
 |_,_=>.fail
def zeroEl:(t:Ty)->El t
 |.int _=>(0:Int)
 |.bool=>false
 |.str=>([]:List UInt8)
 |.sl t=>([]:List (El t))
 |.unit=>()
 |.prod a b=>(zeroEl a,zeroEl b)
 |.arr n t=>Vw n (zeroEl t)
 |.ref=>()
 |.pt t=>(none:Option (El t))
 |.lk a b=>([]:List (El a×El b))
 |.pn t=>(none:Option (Nat×El t))
def Ty.data:Ty->Bool
 |.ref=>false
 |.pt t=>t.data
 |.lk a b=>a.data&&b.data
 |.pn t=>t.data
 |.sl t=>t.data
 |.prod a b=>a.data&&b.data
 |.arr _ t=>t.data
 |_=>true
def Ze1:Ty->AV
 |.ref=>.nilr false
 |.sl _=>.nils
 |a=>.jk a.size
def Ty.isSl:Ty->Bool
 |.sl _=>true
 |_=>false
def Hh(z:Bool)(a:Ty):AV:=bif a.data&& (z|| !a.isSl) then .d a (zeroEl a) else Ze1 a
def Gt(z:Bool):Ty->Zq
 |.prod a b=>.cons (Hh z a) (Gt z b)
 |_=>.nil
def XN(t:Ty):AV:=
 bif t.data&& !t.isSl then .d t (zeroEl t) else match t with
  |.ref=>.nilr false
  |.sl _=>.nils
  |.prod a b=>.agg (Gt false (.prod a b))
  |t=>.jk t.size
def ZcV(x:Bool)(t:Ty):AV:=bif x then(match t with
 |.prod a b=>.agg (Gt false (.prod a b))
 |t=>XN t) else XN t
def DZ(z:Bool)(parts:List (Nat×AV)):Ty->Nat->Zq
 |.prod a b,n=>.cons ((parts.lookup n).getD (Hh z a)) (DZ z parts b (n+1))
 |_,_=>.nil
def Ga:Zq->Option DV
 |.nil=>some ⟨.unit,()⟩
 |.cons (.d t x) l=>match Ga l with
  |some ⟨u,y⟩=>some ⟨.prod t u,(x,y)⟩
  |none=>none
 |_=>none
def Zcr(l:Zq):AV:=match Ga l with
 |some ⟨t,x⟩=>.d t x
 |none=>.agg l
def RP(t:Ty)(parts:List (Nat×AV)):Nat->Nat->Option (List (El t))
 |0,_=>some []
 |m+1,n=>match (parts.lookup n).getD (.d t (zeroEl t)) with
  |.d b x=>(Kw b t x).bind fun y=>(RP t parts m (n+1)).bind fun l=>some (y::l)
  |_=>none
def Zcb(e:Ty):List (Nat×AV)->Zw (List (Nat×AV) ×List Nat)
 |[]=>.ret ([],[])
 |p::l=>(Kl e p.2).bind fun x=>(Zcb e l).bind fun r=>.ret ((p.1,.d e x.1)::r.1,x.2++r.2)
def fieldsOf:Ty->Nat
 |.prod _ b=>fieldsOf b+1
 |_=>0
def Ty.isStruct:Ty->Bool
 |.prod _ _=>true
 |.unit=>true
 |_=>false
def ZE:Nat:=2 ^ 39
def Zin(t:Ty)(nid:Nat)(s x:AV):Zw (AV×KB):=
 (Xb t s).bind fun r=>(G5 t x).bind fun y=>
   .opt (ZD (decide (r.1.length+y.1.length<=ZE))) fun _=>
    .ret (.vw nid,(r.2.map fun id=>(id,none))++[(nid,some (.vec t (r.1++y.1)))])
def ZiR(t:Ty)(nid:Nat)(n:Int):Zw (AV×KB):=
 .opt (ZD (decide (1<=n/\n<=(ZE:Int)))) fun _=>.ret (.vw nid,[(nid,some (.vec t (Vw n.toNat (zeroEl t))))])
def Ziq(t:Ty)(d s:AV):Zw (AV×KB):=
 match d with
 |.vw id=>.getH id fun
  |some (.vec c xs)=>.opt (Kw (.sl c) (.sl t) xs) fun xs=>(G5 t s).bind fun y=>
    .ret (.d (.int .i64) ((min y.1.length xs.length:Nat):Int),[(id,some (.vec t (y.1.take (min y.1.length xs.length)++xs.drop (min y.1.length xs.length))))])
  |_=>.fail
 |.vs id b n=>.getH id fun
  |some (.vec c xs)=>.opt (Kw (.sl c) (.sl t) xs) fun xs=>.opt (ZD (Vba (b+n) xs.length)) fun _=>(G5 t s).bind fun y=>
    .ret (.d (.int .i64) ((min y.1.length n:Nat):Int),[(id,some (.vec t (xs.take b++y.1.take (min y.1.length n)++xs.drop (b+min y.1.length n))))])
  |_=>.fail
 |_=>.fail
def Zfp(id nid:Nat)(c:Ty)(k:El c):Zw K0:=
 .getH id fun
  |some (.rows t xs v none)=>bif Vv v nid then .opt (Kw c (.int .i64) k) fun i=>.ret (.rows t xs nid (some i.toNat)) else .fail
  |some (.mrows b t m v none)=>bif Vv v nid then .opt (Kw c b k) fun d=>.ret (.mrows b t m nid (some d)) else .fail
  |_=>.fail
def Zfq(id:Nat)(d:Ty)(k:El d)(t:Ty)(row:List (El t)):Zw K0:=
 .getH id fun
  |some (.rows c xs v none)=>.opt (Kw d (.int .i64) k) fun i=>.opt (Kw (.sl t) (.sl c) row) fun y=>.ret (.rows c (xs.set i.toNat y) v none)
  |some (.mrows b c m v none)=>.opt (Kw d b k) fun e=>.opt (Kw (.sl t) (.sl c) row) fun y=>.ret (.mrows b c (ZZ (Zj b) e y m) v none)
  |_=>.fail
def Zio(t:Ty)(nid id ver:Nat)(b:Ty)(k:El b)(x:AV):Zw (AV×KB):=
 (YB id ver b k).bind fun r=>.opt (Kw (.sl r.1) (.sl t) r.2) fun xs=>(G5 t x).bind fun y=>
   .opt (ZD (decide (xs.length+y.1.length<=ZE))) fun _=>.opt (ZD (!KX id y.2)) fun _=>(Zfp id nid b k).bind fun o=>
    .ret (.vw nid,[(id,some o),(nid,some (.vec t (xs++y.1)))])
def Zip(t:Ty)(nid:Nat)(s x:AV):Zw (AV×KB):=
 (Gc t s).bind fun r=>(Gc t x).bind fun y=>
   .opt (ZD (decide (r.1.length+y.1.length<=ZE))) fun _=>.opt (ZD (HP (r.2++y.2))) fun _=>
    .ret (.vw nid,((r.2++y.2).map fun id=>(id,none))++[(nid,some (.rows t (r.1++y.1) 0 none))])
def ZbU(t:Ty)(parts:List (Nat×AV)):Nat->Nat->Zw (List (List (El t)) ×List Nat)
 |0,_=>.ret ([],[])
 |m+1,n=>(Xb t ((parts.lookup n).getD .nils)).bind fun x=>(ZbU t parts m (n+1)).bind fun y=>.ret (x.1::y.1,x.2++y.2)
def Rb(h:Option Nat)(i:Nat):Bool:=match h with
 |none=>true
 |some j=>Vd j i
def holeK(b:Ty)(h:Option (El b))(k:El b):Bool:=match h with
 |none=>true
 |some j=>Zj b j k
def Ye:Option Ty->Bool
 |some (.sl _)=>true
 |_=>false
def Zix(t:Option Ty)(mp:Bool)(v:AV):Zw AV:=
 match v with
 |.d (.sl _) xs=>bif Ye t then .ret (.d (.int .i64) (xs.length:Int)) else .fail
 |.d .str xs=>bif t==some .str then .ret (.d (.int .i64) (xs.length:Int)) else .fail
 |.nils=>bif Ye t then .ret (.d (.int .i64) (0:Int)) else .fail
 |.vs _ _ n=>bif Ye t then .ret (.d (.int .i64) (n:Int)) else .fail
 |.vw id=>bif Ye t then .getH id fun
  |some (.vec _ xs)=>.ret (.d (.int .i64) (xs.length:Int))
  |some (.rows _ xs _ _)=>.ret (.d (.int .i64) (xs.length:Int))
  |some (.dat _ xs)=>.ret (.d (.int .i64) (xs.length:Int))
  |_=>.fail else .fail
 |.nw id ver b k=>bif Ye t then(YB id ver b k).bind fun r=>.ret (.d (.int .i64) (r.2.length:Int)) else .fail
 |.mp id=>bif mp then .getH id fun
  |some (.map _ _ m)=>.ret (.d (.int .i64) (m.length:Int))
  |_=>.fail else .fail
 |_=>.fail
def Gf(n:Nat):List Nat->Bool
 |[]=>true
 |i::l=>Vba (i+1) n&& !(l.contains i) &&Gf n l
def Zax(f:Int->Int->Int)(k:IntKind):Int->List AV->Zw AV
 |a,[]=>.ret (.d (.int k) a)
 |a,.d (.int c) b::l=>bif c==k then Zax f k (f a b) l else .fail
 |_,_=>.fail
def AV.solid:AV->Bool
 |.jk _=>false
 |_=>true
def Wj(v:AV):Option Int:=match v with
 |.d (.int _) n=>some n
 |_=>none
def sliceB(len cap:Nat)(lo b:Option Int):Option (Nat×Nat):=
 let h:Option Nat:=match b with|some x=>if 0<=x/\x<=cap then some x.toNat else none|none=>some len
 h.bind fun h=>match lo with
  |some x=>if 0<=x/\x<=h then some (x.toNat,h) else none
  |none=>some (0,h)
def GB(b:Operand->AV):Option Operand->Bool
 |some x=>(Wj (b x)).isSome
 |none=>true
def HH:AV->Option Nat
 |.d t _=>some t.size
 |.dp _ _=>some 1
 |.ptr _ _=>some 1
 |.vp _ _ _=>some 1
 |.mp _=>some 1
 |.fn _ _=>some 1
 |.nilr _=>some 1
 |.nils=>some 1
 |.vw _=>some 1
 |.vs _ _ _=>some 1
 |.nw _ _ _ _=>some 1
 |.np _ _ _ _ _ _=>some 1
 |_=>none
def ZaI(v:AV):Bool:= !v.isAgg&& (match HH v with
 |some n=>Vd n 1
 |none=>false)
def RR:Zq->Bool
 |.nil=>true
 |.cons v l=>ZaI v&&RR l
def Zcv:List AV->Bool
 |[]=>true
 |.tup _::_=>false
 |_::l=>Zcv l
def ZQ(E:Km)(nid:Nat)(op:Op)(_rt:TypeId)(A:Operand->AV):Zw (AV×KB):=
 match op with
 |.move x=>.ret (A x,[])
 |.assign x=>.ret (A x,[])
 |.pick c a b=>(match A c with
  |.d .bool t=>.bool t fun t=>.ret (bif t then A a else A b,[])
  |_=>.fail)
 |.alloc T=>(match E.bd T with
  |some e=>.ret (.ptr nid [],[(nid,some (.bld T e []))])
  |none=>.opt (E.ty T) fun t=>.ret (.ptr nid [],[(nid,some (.var t (ZcV (E.zx T) t)))]))
 |.box T x=>.opt (E.ty T) fun t=>bif (A x).fits t then .ret (.ptr nid [],[(nid,some (.var t (A x)))]) else .fail
 |.build T N=>.opt (E.ty T) fun t=>(match t with
  |.prod a b=>bif !Gf (fieldsOf (.prod a b)) (N.toList.map (·.1)) then .fail else let l:=DZ (Ty.data (.prod a b) && !E.zx T) (N.toList.map fun p=>(p.1,A p.2)) (.prod a b) 0;bif l.fits (.prod a b) then(bif E.rw T then(Kl (.prod a b) (Zcr l)).bind fun r=>.ret (.d (.prod a b) r.1,r.2.map fun id=>(id,none)) else .ret (Zcr l,[])) else .fail
  |.arr n e=>bif !Gf n (N.toList.map (·.1)) || !e.data then .fail else .opt (RP e (N.toList.map fun p=>(p.1,A p.2)) n 0) fun l=>.ret (.d (.arr n e) l,[])
  |_=>.fail)
 |.buildSlice T n N=>.opt (E.ty T) fun t=>(match t with
  |.sl e=>bif E.rw T then(match e with
    |.sl O=>bif !Gf n (N.toList.map (·.1)) ||Vv (2 ^ 24) n then .fail else(ZbU O (N.toList.map fun p=>(p.1,A p.2)) n 0).bind fun r=>.opt (ZD (HP r.2)) fun _=>.ret (.vw nid,(r.2.map fun id=>(id,none))++[(nid,some (.rows O r.1 0 none))])
    |_=>.fail) else bif !Gf n (N.toList.map (·.1)) || !e.data||Vv (2 ^ 24) (n*e.size) then .fail else(Zcb e (N.toList.map fun p=>(p.1,A p.2))).bind fun r=>.opt (RP e r.1 n 0) fun l=>(Dd r.2).bind fun ds=>.ret (.vw nid,(r.2.map fun id=>(id,none))++[(nid,some (.vec e l))]++ds)
  |_=>.fail)
 |.load T a=>.opt (E.ty T) fun t=>(match A a with
  |.dp Q x=>bif Q==t then .ret (.d Q x,[]) else .fail
  |.ptr id p=>.getH id fun
   |some (.var _ c)=>(H8 c p).bind fun v=>bif v.fits t&&v.solid then .ret (v,[]) else .fail
   |_=>.fail
  |.vp id i p=>.getH id fun
   |some (.vec _ xs)=>.opt xs[i]? fun x=>(Yb _ x p).bind fun v=>bif v.1==t then .ret (.d v.1 v.2,[]) else .fail
   |some (.rows I xs v none)=>bif p.isEmpty&&t== .sl I then .opt xs[i]? fun _=>.ret (.nw id v (.int .i64) (i:Int),[]) else .fail
   |_=>.fail
  |.np id ver D k i p=>(YB id ver D k).bind fun r=>.opt r.2[i]? fun x=>(Yb _ x p).bind fun v=>bif v.1==t then .ret (.d v.1 v.2,[]) else .fail
  |_=>.fail)
 |.store T a x=>.opt (E.ty T) fun t=>bif (A x).fits t then(match A a with
  |.ptr id p=>.getH id fun
   |some (.var I c)=>(Dy I c p (A x)).bind fun V=>.ret (.junk,[(id,some (.var I V))])
   |_=>.fail
  |.vp id i p=>.getH id fun
   |some (.vec I xs)=>.opt xs[i]? fun e=>.opt (A x).dv? fun y=>(Xe I e p y).bind fun O=>.ret (.junk,[(id,some (.vec I (xs.set i O)))])
   |some (.rows I xs v h)=>bif p.isEmpty&&t== .sl I&&Vv v nid then .opt (ZD (Rb h i)) fun _=>.opt xs[i]? fun _=>(Xb I (A x)).bind fun r=>.ret (.junk,(r.2.map fun id=>(id,none))++[(id,some (.rows I (xs.set i r.1) nid none))]) else .fail
   |_=>.fail
  |.np id ver D k i p=>(YB id ver D k).bind fun r=>.opt r.2[i]? fun e=>.opt (A x).dv? fun y=>(Xe r.1 e p y).bind fun O=>(Zfq id D k r.1 (r.2.set i O)).bind fun o=>.ret (.junk,[(id,some o)])
  |_=>.fail) else .fail
 |.nilCheck x=>bif Zkj (A x) then .ret (A x,[]) else .fail
 |.binOp op T x y _=>bif Zef (E.pk T) (A x) y then(match op with
   |.eql=>.ret (.d .bool false,[])
   |.neq=>.ret (.d .bool true,[])
   |_=>.fail) else(Zfo E.ty T op (A x) (A y)).bind fun v=>.ret (v,[])
 |.unOp op _ x=>(aun op (A x)).bind fun v=>.ret (v,[])
 |.convert S T x=>.opt (E.ty S) fun s=>.opt (E.ty T) fun t=>(match t,A x with
  |.int k,.d (.int _) n=>.ret (.d (.int k) (k.wrap n),[])
  |.str,.d .str s=>.ret (.d .str s,[])
  |.str,v=>bif s== .sl (.int .u8) then(G5 (.int .u8) v).bind fun r=>.ret (.d .str (Zi4 r.1),[]) else .fail
  |_,_=>.fail)
 |.makeFunc (.func f) first G=>bif first.isEmpty&&RR (Zq.ofList (G.toList.map A)) then .ret (.fn f (Zq.ofList (G.toList.map A)),[]) else .fail
 |.makeMap T r=>.opt (E.mty T) fun m=>bif E.rw T then(match m with
   |(D,.sl t)=>bif D.keyOk&& (match r with|none=>true|some x=>(Wj (A x)).isSome) then .ret (.mp nid,[(nid,some (.mrows D t [] 0 none))]) else .fail
   |_=>.fail) else bif m.1.keyOk&& (match r with|none=>true|some x=>(Wj (A x)).isSome) then .ret (.mp nid,[(nid,some (.map m.1 m.2 []))]) else .fail
 |.makeSlice T l c=>.opt (E.ty T) fun t=>(match t,A l,A c with
  |.sl e,.d (.int _) n,.d (.int _) m=>bif E.rw T then(match e with
    |.sl O=>.opt (ZD (decide (0<=n/\n<=m/\m<=ZE))) fun _=>.ret (.vw nid,[(nid,some (.rows O (Vw n.toNat []) 0 none))])
    |_=>.fail) else bif !e.data then .fail else .opt (ZD (decide (0<=n/\n<=m/\m<=ZE))) fun _=>.ret (.vw nid,[(nid,some (.vec e (Vw n.toNat (zeroEl e))))])
  |_,_,_=>.fail)
 |.slice T x J M none=>bif !(GB A J&&GB A M) then .fail else(match A x with
  |.d (.sl t) xs=>bif !(E.ty T==some (.sl t)) then .fail else .opt (sliceB xs.length xs.length (J.bind fun o=>Wj (A o)) (M.bind fun o=>Wj (A o))) fun r=>.ret (.d (.sl t) ((xs.drop r.1).take (r.2 - r.1)),[])
  |.d .str xs=>bif !(E.ty T==some .str) then .fail else .opt (sliceB xs.length xs.length (J.bind fun o=>Wj (A o)) (M.bind fun o=>Wj (A o))) fun r=>.ret (.d .str ((xs.drop r.1).take (r.2 - r.1)),[])
  |.nils=>(match E.ty T with
   |some (.sl _)=>.opt (sliceB 0 0 (J.bind fun o=>Wj (A o)) (M.bind fun o=>Wj (A o))) fun _=>.ret (.nils,[])
   |_=>.fail)
  |.vw id=>.getH id fun
   |some (.vec t xs)=>bif !(E.ty T==some (.sl t)) then .fail else .opt (sliceB xs.length xs.length (J.bind fun o=>Wj (A o)) (M.bind fun o=>Wj (A o))) fun r=>(match J with|none=>.ret (.vs id 0 r.2,[]) |some _=>.ret (.vs id r.1 (r.2 - r.1),[]))
   |some (.dat t xs)=>bif !(E.ty T==some (.sl t)) then .fail else .opt (sliceB xs.length xs.length (J.bind fun o=>Wj (A o)) (M.bind fun o=>Wj (A o))) fun r=>.ret (.d (.sl t) ((xs.drop r.1).take (r.2 - r.1)),[])
   |_=>.fail
  |_=>.fail)
 |.slice T x J (some M) (some X)=>bif !(GB A J&&GB A (some M)) then .fail else(match A x with
  |.vw id=>.getH id fun
   |some (.vec t xs)=>bif !(E.ty T==some (.sl t)) then .fail else .opt (Wj (A X)) fun m=>.opt (Zo m (xs.length+1)) fun m=>.opt (sliceB xs.length m (J.bind fun o=>Wj (A o)) (Wj (A M))) fun r=>(match J with|none=>.ret (.vs id 0 r.2,[]) |some _=>.ret (.vs id r.1 (r.2 - r.1),[]))
   |_=>.fail
  |_=>.fail)
 |.fieldAddr T x f=>.opt (E.ty T) fun t=>.opt (Z0 t [f]) fun r=>bif Vd r.2.size 0|| !t.isStruct then .fail else(match A x with
  |.dp Q y=>bif Q==t then(Yb Q y [f]).bind fun v=>.ret (.dp v.1 v.2,[]) else .fail
  |.ptr id p=>.getH id fun
   |some (.var I _)=>.opt (Ru I p) fun q=>bif q==t then .ret (.ptr id (p++[f]),[]) else .fail
   |_=>.fail
  |.vp id i p=>.getH id fun
   |some (.vec I _)=>.opt (Z0 I p) fun q=>bif q.2==t then .ret (.vp id i (p++[f]),[]) else .fail
   |_=>.fail
  |.np id ver D k i p=>(YB id ver D k).bind fun s=>.opt (Z0 s.1 p) fun q=>bif q.2==t then .ret (.np id ver D k i (p++[f]),[]) else .fail
  |_=>.fail)
 |.field T x f=>.opt (E.ty T) fun t=>.opt (Z0 t [f]) fun r=>bif !t.isStruct|| !(A x).fits t|| !(A x).solid then .fail else(H8 (A x) [f]).bind fun v=>bif v.fits r.2&&v.solid then .ret (v,[]) else .fail
 |.indexAddr T x i=>.opt (E.ty T) fun L=>(match A x,A i with
  |.d (.sl t) xs,.d (.int _) n=>bif L== .sl t then .opt (idx xs n) fun y=>.ret (.dp t y,[]) else .fail
  |.vw id,.d (.int _) n=>.getH id fun
   |some (.vec t xs)=>bif L== .sl t then .opt (Zo n xs.length) fun j=>.ret (.vp id j [],[]) else .fail
   |some (.rows t xs _ _)=>bif L== .sl (.sl t) then .opt (Zo n xs.length) fun j=>.ret (.vp id j [],[]) else .fail
   |some (.dat t xs)=>bif L== .sl t then .opt (idx xs n) fun y=>.ret (.dp t y,[]) else .fail
   |_=>.fail
  |.nw id ver D k,.d (.int _) n=>(YB id ver D k).bind fun r=>bif L== .sl r.1 then .opt (Zo n r.2.length) fun j=>.ret (.np id ver D k j [],[]) else .fail
  |.vs id J m,.d (.int _) n=>.getH id fun
   |some (.vec t xs)=>bif L== .sl t then .opt (ZD (decide (J+m<=xs.length))) fun _=>.opt (Zo n m) fun j=>.ret (.vp id (J+j) [],[]) else .fail
   |_=>.fail
  |.dp (.arr m t) xs,.d (.int _) n=>bif L== .arr m t then .opt (idx xs n) fun y=>.ret (.dp t y,[]) else .fail
  |.ptr id p,.d (.int _) n=>.getH id fun
   |some (.var I _)=>.opt (Z0 I p) fun q=>(match q.2 with
    |.arr m t=>bif L== .arr m t then .opt (Zo n m) fun j=>.ret (.ptr id (p++[j]),[]) else .fail
    |_=>.fail)
   |_=>.fail
  |_,_=>.fail)
 |.index T x i=>.opt (E.ty T) fun L=>(match A x,A i with
  |.d (.arr m t) xs,.d (.int _) n=>bif L== .arr m t&& !Vd t.size 0 then .opt (idx xs n) fun y=>.ret (.d t y,[]) else .fail
  |.d .str xs,.d (.int _) n=>bif L== .str then .opt (idx xs n) fun y=>.ret (.d (.int .u8) (y.toNat:Int),[]) else .fail
  |_,_=>.fail)
 |.lookup T m k ok=>.opt (E.mty T) fun mt=>(match A m,A k with
  |.mp id,.d D x=>.getH id fun
   |some (.map C K es)=>bif C.keyOk&&mt.1==C&&mt.2==K&&K.data then .opt (Kw D C x) fun y=>
     .ret (bif ok then .tup (.cons (.d K ((ZI (Zj C) y es).getD (zeroEl K))) (.cons (.d .bool (ZI (Zj C) y es).isSome) .nil)) else .d K ((ZI (Zj C) y es).getD (zeroEl K)),[]) else .fail
   |some (.mrows C t m v none)=>bif C.keyOk&&mt.1==C&&mt.2== .sl t then .opt (Kw D C x) fun y=>
     .ret (bif ok then .tup (.cons (.nw id v C y) (.cons (.d .bool (ZI (Zj C) y m).isSome) .nil)) else .nw id v C y,[]) else .fail
   |_=>.fail
  |_,_=>.fail)
 |.mapUpdate T m k v=>.opt (E.mty T) fun mt=>(match A m,A k,A v with
  |.mp id,.d D x,.d K z=>.getH id fun
   |some (.map C U es)=>bif C.keyOk&&mt.1==C then .opt (Kw D C x) fun y=>.opt (Kw K U z) fun u=>.ret (.junk,[(id,some (.map C U (ZZ (Zj C) y u es)))]) else .fail
   |_=>.fail
  |.mp id,.d D x,.vw W=>.getH id fun
   |some (.mrows C t es u h)=>bif C.keyOk&&mt.1==C&&mt.2== .sl t&&Vv u nid then .opt (Kw D C x) fun y=>.opt (ZD (holeK C h y)) fun _=>(Xb t (.vw W)).bind fun r=>
     .ret (.junk,(r.2.map fun id=>(id,none))++[(id,some (.mrows C t (ZZ (Zj C) y r.1 es) nid none))]) else .fail
   |_=>.fail
  |_,_,_=>.fail)
 |.range T x=>.opt (E.mty T) fun _=>(match A x with
  |.mp id=>.getH id fun
   |some (.map D K m)=>.ret (.ptr nid [],[(id,none),(nid,some (.rng D K m none))])
   |_=>.fail
  |_=>.fail)
 |.next it false=>(match A it with
  |.ptr id []=>.getH id fun
   |some (.rng _ _ [] _)=>.ret (.tup (.cons (.d .bool false) .nil),[])
   |_=>.fail
  |_=>.fail)
 |.entry it=>(match A it with
  |.ptr id []=>.getH id fun
   |some (.rng D K _ (some e))=>.ret (.tup (.cons (.d D e.1) (.cons (.d K e.2) .nil)),[])
   |_=>.fail
  |_=>.fail)
 |.extract t i=>(match A t with
  |.tup l=>.opt (l.nth i) fun v=>.ret (v,[])
  |_=>.fail)
 |.call c=>(match c.callee with
  |.builtin .len=>(match c.args.toList,c.argTypes[0]? with
   |[x],some T=>(Zix (E.ty T) (E.mty T).isSome (A x)).bind fun v=>.ret (v,[])
   |_,_=>.fail)
  |.builtin .min=>(match c.args.toList with
   |x::l=>(match A x with
    |.d (.int k) a=>(Zax imin k a (l.map A)).bind fun v=>.ret (v,[])
    |_=>.fail)
   |_=>.fail)
  |.builtin .max=>(match c.args.toList with
   |x::l=>(match A x with
    |.d (.int k) a=>(Zax imax k a (l.map A)).bind fun v=>.ret (v,[])
    |_=>.fail)
   |_=>.fail)
  |.builtin .append=>(match c.args.toList,(c.argTypes[0]?).bind E.ty with
   |[s,x],some (.sl t)=>bif !Ye ((c.argTypes[1]?).bind E.ty) then(match A s,A x,(c.argTypes[1]?).bind E.ty with
      |.nils,.d (.int _) n,some (.int _)=>bif (c.argTypes[0]?).any E.rw|| !t.data then .fail else ZiR t nid n
      |_,_,_=>.fail) else bif (c.argTypes[0]?).any E.rw then(match t with
      |.sl Q=>Zip Q nid (A s) (A x)
      |_=>.fail) else(match A s with
      |.nw id ver D k=>Zio t nid id ver D k (A x)
      |s=>Zin t nid s (A x))
   |_,_=>.fail)
  |.builtin .copy=>(match c.args.toList,(c.argTypes[0]?).bind E.ty with
   |[d,s],some (.sl t)=>Ziq t (A d) (A s)
   |_,_=>.fail)
  |.builtin .cap=>(match c.args.toList,c.argTypes[0]? with
   |[x],some T=>(match A x with
    |.nils=>bif Ye (E.ty T) then .ret (.d (.int .i64) (0:Int),[]) else .fail
    |_=>.fail)
   |_,_=>.fail)
  |.value f=>(match A f with
   |.fn f G=>bif !(RR G&&Zcv (c.args.toList.map A)) then .fail else let R:=(Zq.ofList (c.args.toList.map A)).app G
    ZaG nid R (D8 (Zb6 R) (E.specs f))
   |_=>.fail)
  |_=>.fail)
 |_=>.fail
def unc{α β:Type} :List (α×β)->Option (α×List (α×β) ×β)
 |[]=>none
 |y::l=>some (y.1,l,y.2)
def Zcj:Option Ty->Bool
 |some (.pt _)=>true
 |some (.lk _ _)=>true
 |some (.pn _)=>true
 |_=>false
def AV.isPtD:AV->Bool
 |.d (.pt _) _=>true
 |.d (.lk _ _) _=>true
 |.d (.pn _) _=>true
 |_=>false
def D5(v:AV):Zw AV:=match v with
 |.d (.pt t) o=>.opt o fun y=>.ret (.dp t y)
 |.d (.lk a b) l=>.opt (unc l) fun y=>.ret (.dp (Zac a b) y)
 |.d (.pn t) o=>.opt o fun y=>.ret (.dp t y.2)
 |_=>.fail
def Zet(v:AV):Option Bool:=match v with
 |.d (.pt _) o=>some o.isNone
 |.d (.lk _ _) l=>some l.isEmpty
 |.d (.pn _) o=>some o.isNone
 |_=>none
def W0(E:Km)(nid:Nat)(op:Op)(rt:TypeId)(z:Operand->AV):Zw (AV×KB):=
 match op with
 |.mapEntry T m k=>.opt (E.mty T) fun mt=>(match z m,z k with
  |.mp id,.d K x=>.getH id fun
   |some (.mrows j t es v none)=>bif j.keyOk&&mt.1==j&&mt.2== .sl t then .opt (Kw K j x) fun y=>
     .ret (.tup (.cons (.nw id v j y) (.cons (.d (.int .i64) ((amPos (Zj j) y es:Nat):Int)) .nil)),[(id,some (.mrows j t (ZZ (Zj j) y ((ZI (Zj j) y es).getD []) es) v none))]) else .fail
   |_=>.fail
  |_,_=>.fail)
 |.entryStore T m s x=>.opt (E.mty T) fun mt=>(match z m,z s,z x with
  |.mp id,.d (.int _) n,.vw J=>.getH id fun
   |some (.mrows j t es u h)=>bif j.keyOk&&mt.1==j&&mt.2== .sl t&&Vv u nid then .opt (idx es n) fun e=>.opt (ZD (holeK j h e.1)) fun _=>(Xb t (.vw J)).bind fun r=>
     .ret (.junk,(r.2.map fun id=>(id,none))++[(id,some (.mrows j t (ZZ (Zj j) e.1 r.1 es) nid none))]) else .fail
   |_=>.fail
  |_,_,_=>.fail)
 |.nilCheck x=>bif (z x).isPtD then(D5 (z x)).bind fun _=>.ret (z x,[]) else ZQ E nid op rt z
 |.fieldAddr T x f=>bif (z x).isPtD then(D5 (z x)).bind fun v=>ZQ E nid (.fieldAddr T x f) rt fun _=>v else ZQ E nid op rt z
 |.call c=>(match c.callee with
  |.builtin .clear=>(match c.args.toList,(c.argTypes[0]?).bind E.ty with
   |[x],some (.sl t)=>(match z x with
    |.vs id D n=>.getH id fun
     |some (.vec A xs)=>bif A==t&&A.data then .opt (ZD (decide (D+n<=xs.length))) fun _=>.ret (.tup .nil,[(id,some (.vec A (xs.take D++Vw n (zeroEl A)++xs.drop (D+n))))]) else .fail
     |_=>.fail
    |_=>.fail)
   |_,_=>.fail)
  |_=>ZQ E nid op rt z)
 |.makeFunc fn first C=>bif first.isEmpty then ZQ E nid (.makeFunc fn first C) rt z else .ret (.junk,[])
 |.load T a=>bif (z a).isPtD then(D5 (z a)).bind fun v=>ZQ E nid (.load T a) rt fun _=>v else ZQ E nid op rt z
 |.store T a x=>bif (Zcj (E.ty T) ||Ye (E.ty T) &&E.zx T) && !(z x).isPtD then .opt (E.ty T) fun t=>(Kl t (z x)).bind fun r=>(match z a with
   |.ptr id p=>bif KX id r.2 then .fail else .getH id fun
    |some (.var G c)=>(Dy G c p (.d t r.1)).bind fun I=>.ret (.junk,(r.2.map fun i=>(i,none))++[(id,some (.var G I))])
    |_=>.fail
   |_=>.fail) else ZQ E nid op rt z
 |.binOp b T x y _=>(match z x,z y with
  |.d t p,.nilr true=>.opt (Zet (.d t p)) fun r=>bif E.ty T==some t then(match b with
   |.eql=>.ret (.d .bool r,[])
   |.neq=>.ret (.d .bool (!r),[])
   |_=>.fail) else .fail
  |.d (.pn t) p,.d (.pn A) q=>bif E.ty T==some (.pn t) &&A==t&& !Vd t.size 0 then(match b with
   |.eql=>.ret (.d .bool (decide (p.map Vh=q.map Vh)),[])
   |.neq=>.ret (.d .bool (!decide (p.map Vh=q.map Vh)),[])
   |_=>.fail) else .fail
  |_,_=>ZQ E nid op rt z)
 |op=>ZQ E nid op rt z
end Tr
end
section
namespace Tr
open Go
structure AS where
 F:Nat->AV
 H:AH
 nx:Nat
 fz:List Nat
def XL(F:Nat->AV)(n:Nat)(v:AV):Nat->AV:=fun k=>bif Vd k n then v else F k
def WU(F:Nat->AV)(d:Option Nat)(v:AV):Nat->AV:=match d with
 |some n=>XL F n v
 |none=>F
def Zbq:AV:=.tup .nil
def Zr(H:AH):KB->AH
 |[]=>H
 |p::l=>Zr (Kc H p.1 p.2) l
inductive Ex where
 |normal
 |exit (id:Nat)
 |ret
 |jump (l:Nat)
def Ex.beq:Ex->Ex->Bool
 |.normal,.normal=>true
 |.exit a,.exit b=>Vd a b
 |.ret,.ret=>true
 |.jump a,.jump b=>Vd a b
 |_,_=>false
def JY{σ τ:Type}(step:σ->Option (σ ⊕ τ)):Nat->σ->Option τ
 |0,_=>none
 |n+1,s=>match step s with
  |some (.inl b)=>JY step n b
  |some (.inr r)=>some r
  |none=>none
open Classical in
noncomputable def run{σ τ:Type}(step:σ->Option (σ ⊕ τ))(s:σ):Option τ:=
 match JY step 100000 s with
 |some r=>some r
 |none=>if h:∃r n,JY step n s=some r then some h.choose else none
def Hj{σ τ ρ:Type}(cnt:σ->Nat)(step:σ->Nat->Option (σ ⊕ τ))(k:τ->Option ρ)(z:ρ):Nat->σ->Prop
 |0,_=>False
 |n+1,s=>∀i,i<cnt s->(∃b,step s i=some (.inl b)/\Hj cnt step k z n b)\/ ∃t,step s i=some (.inr t)/\k t=some z
def ZbZ{σ τ ρ:Type}(cnt:σ->Nat)(step:σ->Nat->Option (σ ⊕ τ))(k:τ->Option ρ):Nat->σ->Option ρ
 |0,_=>none
 |n+1,s=>bif Vba (cnt s) 1 then(match step s 0 with
  |some (.inl b)=>ZbZ cnt step k n b
  |some (.inr t)=>k t
  |none=>none) else none
open Classical in
noncomputable def drun{σ τ ρ:Type}(cnt:σ->Nat)(step:σ->Nat->Option (σ ⊕ τ))(k:τ->Option ρ)(s:σ):Option ρ:=
 match ZbZ cnt step k 1000 s with
 |some r=>some r
 |none=>if h:∃z n,Hj cnt step k z n s then some h.choose else none
structure We where
 i:Nat
 rd:List Nat
 wr:List Nat
def YL(E:Km):Option Nat->Bool
 |some d=>Vv d E.nt&& !KX d E.ks
 |none=>true
def YD(E:Km)(ops:Array Oper)(base:Nat)(fz:List Nat)(ρ:Type):List (Oper×Nat)->(Nat->AV)->AH->List We->((Nat->AV)->AH->List We->Option ρ)->Option ρ
 |[],F,H,c,k=>k F H c
 |(o,i)::rest,F,H,c,k=>
  let go:=fun(F:Nat->AV)=>bif YL E o.dst then
   (W0 E (base+i*E.stp) o.op o.type (ZB F)).runK H [] fun r rd=>
     bif J7 (r.2.map Vh) fz then
      YD E ops base fz ρ rest (WU F o.dst r.1) (Zr H r.2) (⟨i,rd,r.2.map Vh⟩::c) k else none else none
  let skip:=fun(F:Nat->AV)=>bif YL E o.dst then YD E ops base fz ρ rest (WU F o.dst Zbq) H c k else none
  match o.guard with
  |none=>go F
  |some (j,want)=>match (ops[j]?).bind (·.dst) with
   |none=>none
   |some g=>match F g with
    |.d .bool b=>bif b then(bif want then go (XL F g (.d .bool true)) else skip (XL F g (.d .bool true)))
      else(bif want then skip (XL F g (.d .bool false)) else go (XL F g (.d .bool false)))
    |.tup .nil=>skip F
    |_=>none
def Zal:List Operand->List Nat
 |[]=>[]
 |.tmp t::l=>t::Zal l
 |_::l=>Zal l
def Gn(ops:Array Oper)(o:Oper):List Nat:=
 (match o.guard with
   |some (j,_)=>((ops[j]?).bind (·.dst)).toList
   |none=>[])++Zal o.op.operands.toList
def ZeH(ops:Array Oper)(a b:Oper):Bool:=
 (match a.dst with
   |some d=> !KX d (Gn ops b) && (match b.dst with|some e=> !Vd d e|none=>true)
   |none=>true) &&
 (match b.dst with
   |some d=> !KX d (Gn ops a)
   |none=>true)
def X0(i:Nat):List We->Option We
 |[]=>none
 |t::l=>bif Vd t.i i then some t else X0 i l
def ZmP(c:List We)(i j:Nat):Bool:=
 match X0 i c,X0 j c with
 |some a,some b=>J7 a.wr b.rd&&J7 a.wr b.wr&&J7 b.wr a.rd
 |_,_=>true
def ZeR(ops:Array Oper):List (Nat×Nat):=
 let b:=Region.before ops
 (Vr ops.size).flatMap fun j=>(Vr j).filterMap fun i=>if (b.getD j 0).testBit i then none else some (i,j)
def ZtM(ops:Array Oper):Bool:=(ZeR ops).all fun p=>match ops[p.1]?,ops[p.2]? with
 |some a,some b=>ZeH ops a b
 |_,_=>true
def Zf6(ops:Array Oper):Bool:=ops.toList.zipIdx.all fun p=>p.1.after.all fun e=> !Region.binds .any e||Vv e.on p.2
def ZaM(ops:Array Oper)(b:List We):Bool:=
 Zf6 ops&&ZtM ops&& (b.all (fun t=>t.wr.isEmpty) || (ZeR ops).all fun p=>ZmP b p.1 p.2)
@[reducible] def ElT:List (Nat×Ty)->Type
  |[]=>Unit
  |[(_,t)]=>El t
  |(_,t)::p::l=>El t×ElT (p::l)
def Za8(F:Nat->AV):(l:List (Nat×Ty))->Option (ElT l)
 |[]=>some ()
 |[(n,t)]=>(match F n with
  |.d b x=>Kw b t x
  |_=>none)
 |(n,t)::p::l=>(match F n with
  |.d b x=>(Kw b t x).bind fun y=>(Za8 F (p::l)).bind fun z=>some (y,z)
  |_=>none)
def inT(F:Nat->AV):(l:List (Nat×Ty))->ElT l->Nat->AV
 |[],_=>F
 |[(n,t)],x=>XL F n (.d t x)
 |(n,t)::p::l,x=>inT (XL F n (.d t x.1)) (p::l) x.2
def Zgv(l:List Nat)(F:Nat->AV):Nat->AV:=fun k=>bif KX k l then .junk else F k
def ZdF(ops:List Oper):List Nat:=ops.filterMap (·.dst)
def Zhe(E:Km)(ops:Array Oper)(draw:Bool)(outs:Option (List (Nat×Ty)))(ρ:Type)(s:AS)(k:AS->Option ρ):Option ρ:=
 let nx:=s.nx+ops.size*E.stp
 match outs with
 |none=>YD E ops s.nx s.fz ρ ops.toList.zipIdx s.F s.H [] fun F H b=>bif !draw||ZaM ops b then k ⟨F,H,nx,s.fz⟩ else none
 |some l=>(YD E ops s.nx s.fz (ElT l) ops.toList.zipIdx s.F s.H [] fun F _ b=>bif (!draw||ZaM ops b) &&b.all (fun t=>t.wr.isEmpty) then Za8 F l else none).bind
   fun x=>k ⟨inT (Zgv (ZdF ops.toList) s.F) l x,s.H,nx,s.fz⟩
structure WZ where
 roots:List (Nat×Zy)
 fns:List (Nat×FuncId×List Nat):=[]
 kept:List Nat:=[]
 als:List (Nat×Nat):=[]
 kf:List (Nat×Nat×Nat):=[]
 kv:List Nat:=[]
@[reducible] def W4:List (Nat×Zy)->Type
  |[]=>Unit
  |[(_,p)]=>WO p
  |(_,p)::q::l=>WO p×W4 (q::l)
def RU(F:Nat->AV):(l:List (Nat×Zy))->Zw (W4 l×ZG)
 |[]=>.ret ((),ZG.none)
 |[(n,p)]=>ext p (F n)
 |(n,p)::q::l=>(ext p (F n)).bind fun x=>(RU F (q::l)).bind fun y=>.ret ((x.1,y.1),x.2.app y.2)
def Wz:(l:List (Nat×Zy))->W4 l->Nat->List (Nat×AV) ×List (Nat×K0) ×Nat
 |[],_,n=>([],[],n)
 |[(m,p)],x,n=>let r:=inj p x n;([(m,r.1)],r.2.1,r.2.2)
 |(m,p)::q::l,x,n=>let r:=inj p x.1 n;let s:=Wz (q::l) x.2 r.2.2;((m,r.1)::s.1,r.2.1++s.2.1,s.2.2)
def Ri:List (Nat×AV)->Nat->AV
 |[],_=>.junk
 |p::l,k=>bif Vd k p.1 then p.2 else Ri l k
def Xt:List (Nat×K0)->AH
 |[],_=>none
 |p::l,k=>bif Vd k p.1 then some p.2 else Xt l k
def AV.box? :AV->Option Nat
 |.ptr id []=>some id
 |_=>none
def Dc(F:Nat->AV):Zq->List Nat->Bool
 |.nil,[]=>true
 |.cons v l,n::m=>(match v.box?,(F n).box? with
  |some a,some b=>Vd a b
  |_,_=>false) &&Dc F l m
 |_,_=>false
def Zb7(F:Nat->AV):List (Nat×FuncId×List Nat)->Bool
 |[]=>true
 |(n,f,l)::m=>(match F n with
  |.fn c b=>Vd c f&&Dc F b l
  |_=>false) &&Zb7 F m
def Zdh(F:Nat->AV):List (Nat×FuncId×List Nat)->Nat->AV
 |[]=>F
 |(n,f,l)::m=>XL (Zdh F m) n (.fn f (Zq.ofList (l.map F)))
def Zfx(x y:AV):Bool:=match x,y with
 |.vw a,.vw b=>Vd a b
 |.mp a,.mp b=>Vd a b
 |.ptr a [],.ptr b []=>Vd a b
 |.nils,.nils=>true
 |_,_=>false
def ZbO(F:Nat->AV):List (Nat×Nat)->Bool
 |[]=>true
 |p::l=>Zfx (F p.1) (F p.2) &&ZbO F l
def Zdg(F:Nat->AV):List (Nat×Nat)->Nat->AV
 |[]=>F
 |p::l=>XL (Zdg F l) p.1 (F p.2)
def AV.boxes:Zq->List Nat
 |.nil=>[]
 |.cons v l=>v.box?.toList++AV.boxes l
def Zq.ls:Zq->List AV
 |.nil=>[]
 |.cons v l=>v::l.ls
def De(H:AH):Nat->AV->List Nat
 |0,_=>[]
 |n+1,v=>match v with
  |.ptr id []=>id::(match H id with
   |some (.var _ c)=>De H n c
   |_=>[])
  |.vw id=>[id]
  |.nw id _ _ _=>[id]
  |.mp id=>[id]
  |.agg l=>l.ls.flatMap (De H n)
  |_=>[]
def H9(s:AS):List Nat->List Nat
 |[]=>[]
 |n::l=>(match s.F n with
  |.fn _ b=>AV.boxes b
  |v=>De s.H 8 v)++H9 s l
def XJ(H:AH)(id:Nat):Bool:=match H id with
 |some (.var _ _)=>true
 |some (.vec _ _)=>true
 |some (.map _ _ _)=>true
 |some (.rows _ _ _ none)=>true
 |some (.mrows _ _ _ _ none)=>true
 |some (.rng _ _ _ _)=>true
 |some (.dat _ _)=>true
 |some (.bld _ _ _)=>true
 |_=>false
def Zdq(H:AH):Zq->Bool
 |.nil=>true
 |.cons v l=>(match v with
  |.ptr id []=>XJ H id
  |.dp _ _=>true
  |.d _ _=>true
  |_=>false) &&Zdq H l
def HN(s:AS):List Nat->Bool
 |[]=>true
 |n::l=>(match s.F n with
  |.d _ _=>true
  |.dp _ _=>true
  |.nilr _=>true
  |.nils=>true
  |.ptr id []=>(De s.H 8 (.ptr id [])).all (XJ s.H)
  |.vw id=>XJ s.H id
  |.nw id _ _ _=>XJ s.H id
  |.mp id=>XJ s.H id
  |.fn _ b=>Zdq s.H b
  |_=>false) &&HN s l
def ZY(b:AS)(e:WZ):List Nat:=H9 b e.kept++b.fz
def Wg(E:Km)(e:WZ):Km:= {E with ks:=e.kept++(e.kv++E.ks)}
def ZgY(fz:List Nat)(e:WZ)(s:AS):Option (W4 e.roots):=
 (RU s.F e.roots).runK s.H [] fun r _=>bif r.2.ok fz&&J7 r.2.br fz&&Zb7 s.F e.fns&&ZbO s.F e.als then some r.1 else none
def ZaW(b:AS)(fz:List Nat)(e:WZ)(x:W4 e.roots):AS:=
 let r:=Wz e.roots x b.nx
 ⟨Zdg (Zdh (fun k=>bif KX k e.kept then b.F k else Ri r.1 k) e.fns) e.als,fun id=>bif KX id (ZY b e) then b.H id else Xt r.2.1 id,r.2.2,fz⟩
def Hu(s:AS)(k:Nat×Nat×Nat):Option Nat:=match s.F k.1 with
 |.ptr id []=>(match s.H id with
  |some (.var T (.agg c))=>(match c.nth k.2.1 with
   |some (.vw a)=>bif Vd (Rl T k.2.1) k.2.2 then some a else none
   |_=>none)
  |_=>none)
 |_=>none
def Zcm(b s:AS):List (Nat×Nat×Nat)->Bool
 |[]=>true
 |k::l=>(match Hu b k,Hu s k with
  |some x,some y=>Vd x y
  |_,_=>false) &&Zcm b s l
def Dw(b:AS)(fz:List Nat)(k:Nat×Nat×Nat)(s:AS):AS:=match Hu b k,Hu s k,s.F k.1 with
 |some a,some d,.ptr id []=>(match s.H id,s.H d,b.H a with
  |some (.var T (.agg c)),some (.vec t xs),some (.vec e _)=>bif e==t&& !Vd d id&& !Vd a id&& !KX a fz&& !KX d fz&& !KX id fz then
    {s with H:=Kc (Kc (Kc (Kc s.H d none) id none) a (some (.vec t xs))) id (some (.var T (.agg (c.putNth k.2.1 (.vw a)))))} else s
  |_,_,_=>s)
 |_,_,_=>s
def Rn(b:AS)(fz:List Nat):List (Nat×Nat×Nat)->AS->AS
 |[],s=>s
 |k::l,s=>Rn b fz l (Dw b fz k s)
def Zfr(b:AS):List Nat->(Nat->AV)->Nat->AV
 |[],F=>F
 |n::l,F=>Zfr b l (XL F n (b.F n))
def HR(b:AS)(fz:List Nat)(e:WZ)(s:AS):Option (W4 e.roots):=bif Zcm b s e.kf then ZgY fz e s else none
def Yc(b:AS)(fz:List Nat)(e:WZ)(x:W4 e.roots):AS:=
 let s:=Rn b (ZY b e) e.kf (ZaW b fz e x)
 ⟨Zfr b e.kv s.F,s.H,s.nx,fz⟩
abbrev HC:=List (Ex×WZ)
@[reducible] def X3:HC->Type
  |[]=>Empty
  |[e]=>W4 e.2.roots
  |e::f::l=>W4 e.2.roots ⊕ X3 (f::l)
def Yj(b:AS)(fz:List Nat):(J:HC)->Ex->AS->Option (X3 J)
 |[],_,_=>none
 |[e],x,s=>bif x.beq e.1 then HR b fz e.2 s else none
 |e::f::l,x,s=>bif x.beq e.1 then(HR b fz e.2 s).bind fun y=>some (.inl y) else(Yj b fz (f::l) x s).bind fun y=>some (.inr y)
def GR{ρ:Type}(b:AS):(J:HC)->X3 J->(Ex->AS->Option ρ)->Option ρ
 |[],_,_=>none
 |[e],y,k=>k e.1 (Yc b b.fz e.2 y)
 |e::f::l,y,k=>match y with
  |.inl y=>k e.1 (Yc b b.fz e.2 y)
  |.inr y=>GR b (f::l) y k
def WZ.slots(e:WZ):List Nat:=e.roots.map Vh++e.fns.map Vh++e.kept
def HM(e:WZ):HC->Bool
 |[]=>true
 |f::l=>f.2.kept.all (fun n=>KX n e.kept) &&f.2.kv.all (fun n=>KX n e.kv) &&HP f.2.slots&&HM e l
inductive WL where
 |leaf
 |seq (a b:WL)
 |cnd (J:Option (WZ×HC)) (a b:WL)
 |lp (e:WZ) (J:HC) (h:WL)
 |lpd (it:Nat) (e:WZ) (J:HC) (h:WL)
 |reg (outs:List (Nat×Ty))
 |all (n:Nat)
def WL.l:WL->WL
 |.seq a _=>a
 |.cnd _ a _=>a
 |.all n=>.all n
 |_=>.leaf
def WL.r:WL->WL
 |.seq _ b=>b
 |.cnd _ _ b=>b
 |.all n=>.all n
 |_=>.leaf
def WL.join:WL->Option (WZ×HC)
 |.cnd J _ _=>J
 |_=>none
def WL.outs:WL->Option (List (Nat×Ty))
 |.reg l=>some l
 |_=>none
def Dx(it:Nat)(s:AS):Nat:=match s.F it with
 |.ptr id []=>(match s.H id with
  |some (.rng _ _ rest _)=>bif rest.isEmpty then 1 else rest.length
  |_=>1)
 |_=>1
def Zab(E:Km)(ops:Array Oper)(it i:Nat)(ρ:Type)(s:AS)(k:AS->Option ρ):Option ρ:=
 match ops.toList.zipIdx with
 |[]=>none
 |(o,_)::l=>(match o.op,o.guard,o.dst with
  |.next (.tmp b) false,none,some d=>bif Vd b it&&YL E (some d) then(match s.F it with
   |.ptr id []=>(match s.H id with
    |some (.rng c f rest _)=>bif KX id s.fz then none else
      bif rest.isEmpty then YD E ops s.nx s.fz ρ l (WU s.F (some d) (.tup (.cons (.d .bool false) .nil))) s.H [] fun F H _=>k ⟨F,H,s.nx+ops.size*E.stp,s.fz⟩
      else(rest[i]?).bind fun e=>YD E ops s.nx s.fz ρ l (WU s.F (some d) (.tup (.cons (.d .bool true) (.cons (.d c e.1) (.cons (.d f e.2) .nil)))))
       (Kc s.H id (some (.rng c f (rest.eraseIdx i) (some e)))) [] fun F H _=>k ⟨F,H,s.nx+ops.size*E.stp,s.fz⟩
    |_=>none)
   |_=>none) else none
  |_,_,_=>none)
def ZcR{ρ:Type}(f:AS->(Ex->AS->Option ρ)->Option ρ)(k:Ex->AS->Option ρ):Nat->AS->Option ρ
 |0,_=>none
 |n+1,s=>f s fun e b=>match e with
  |.normal=>ZcR f k n b
  |e=>k e b
noncomputable def Wa:Code->WL->Km->(ρ:Type)->AS->(Ex->AS->Option ρ)->Option ρ
 |.skip,_,_,_,s,k=>k .normal s
 |.label _,_,_,_,s,k=>k .normal s
 |.scope c,h,E,ρ,s,k=>Wa c h E ρ s fun e f=>match e with
  |.jump _=>none
  |e=>k e f
 |.goto l,_,_,_,s,k=>k (.jump l) s
 |.region _ ops draw,h,E,ρ,s,k=>Zhe E ops draw h.outs ρ s (k .normal)
 |.seq a b,h,E,ρ,s,k=>Wa a h.l E ρ s fun e f=>match e with
  |.normal=>Wa b h.r E ρ f k
  |e=>k e f
 |.cond c a b,h,E,ρ,s,k=>match ZB s.F c with
  |.d .bool t=>(match h.join with
   |none=>bif t then Wa a h.l E ρ s k else Wa b h.r E ρ s k
   |some (e,J)=>bif HN s e.kept&&HM e J then
     (let j:AS:= {s with fz:=ZY s e}
      bif t then Wa a h.l (Wg E e) (X3 J) j (Yj s (ZY s e) J) else Wa b h.r (Wg E e) (X3 J) j (Yj s (ZY s e) J)).bind fun o=>GR s J o k
    else none)
  |_=>none
 |.block id c,h,E,ρ,s,k=>Wa c h E ρ s fun e f=>match e with
  |.exit i=>bif Vd i id then k .normal f else k (.exit i) f
  |e=>k e f
 |.loop c,h,E,ρ,s,k=>match h with
  |.all n=>ZcR (fun s k=>Wa c (.all n) E ρ s k) k n s
  |.lp en J m=>bif HN s en.kept&&HM en J&&HP en.slots then
    (HR s (ZY s en) en s).bind fun x=>(run (fun y=>Wa c m (Wg E en) (W4 en.roots ⊕ X3 J) (Yc s (ZY s en) en y) fun e f=>match e with
      |.normal=>(HR s (ZY s en) en f).bind fun z=>some (.inl z)
      |e=>(Yj s (ZY s en) J e f).bind fun z=>some (.inr z)) x).bind fun o=>GR s J o k
   else none
  |.lpd it en J m=>(match c with
   |.seq (.region _ ops false) p=>bif HN s en.kept&&HM en J&&HP en.slots then
     (HR s (ZY s en) en s).bind fun x=>drun (fun y=>Dx it (Yc s (ZY s en) en y)) (fun y i=>Zab (Wg E en) ops it i (W4 en.roots ⊕ X3 J) (Yc s (ZY s en) en y) fun j=>Wa p m (Wg E en) (W4 en.roots ⊕ X3 J) j fun e f=>match e with
       |.normal=>(HR s (ZY s en) en f).bind fun z=>some (.inl z)
       |e=>(Yj s (ZY s en) J e f).bind fun z=>some (.inr z)) (fun o=>GR s J o k) x
    else none
   |_=>none)
  |_=>none
 |.exit id,_,_,_,s,k=>k (.exit id) s
 |.ret,_,_,_,s,k=>k .ret s
 |_,_,_,_,_,_=>none
def Zq.toF:Zq->Nat->AV
 |.nil,_=>Zbq
 |.cons v _,0=>v
 |.cons _ l,n+1=>l.toF n
mutual
def Zy.back:Zy->Bool
 |.own _ k=>k
 |.var _ _=>true
 |.map _ _=>true
 |.rows _ k=>k
 |.mrows _ _=>true
 |.bld _ _ k=>k
 |.agg l=>l.back
 |.fn _ l=>l.back
 |_=>false
def Pats.back:Pats->Bool
 |.nil=>false
 |.cons p l=>p.back||l.back
end
mutual
def Zf7:(p:Zy)->WO p
 |.pd t=>zeroEl t
 |.own _ _=>[]
 |.var _ p=>Zf7 p
 |.ro t=>zeroEl t
 |.map _ _=>[]
 |.rows _ _=>[]
 |.mrows _ _=>[]
 |.it _ _=>[]
 |.bld _ _ _=>[]
 |.agg l=>Zf8 l
 |.fn _ l=>Zf8 l
 |.nilr=>()
 |.nils=>()
 |.any=>()
def Zf8:(l:Pats)->KJ l
 |.nil=>()
 |.cons p l=>(Zf7 p,Zf8 l)
end
mutual
def Zlq:(p:Zy)->HE p
 |.own _ true=>[]
 |.own _ false=>()
 |.var _ p=>Zf7 p
 |.map _ _=>[]
 |.rows _ true=>[]
 |.rows _ false=>()
 |.mrows _ _=>[]
 |.it _ _=>()
 |.bld _ _ true=>[]
 |.bld _ _ false=>()
 |.agg l=>ZgX l
 |.fn _ l=>ZgX l
 |.pd _=>()
 |.ro _=>()
 |.nilr=>()
 |.nils=>()
 |.any=>()
def ZgX:(l:Pats)->WB l
 |.nil=>()
 |.cons p l=>(Zlq p,ZgX l)
end
def ZfS:Zy->AV->Bool
 |.pd t,v=>v.fits t
 |.own t _,v=>v.fits (.sl t)
 |.rows t _,v=>v.fits (.sl (.sl t))
 |.agg _,_=>true
 |.fn _ _,_=>true
 |.any,_=>false
 |.nils,v=>v.fits (.sl .unit)
 |_,v=>v.fits .ref
mutual
def JI:(p:Zy)->AV->Zw (HE p×ZG)
 |.own t true,.vw id=>.getH id fun
  |some (.vec b xs)=>.opt (Kw (.sl b) (.sl t) xs) fun y=>.ret (y,⟨[id],[]⟩)
  |_=>.fail
 |.own _ false,_=>.ret ((),ZG.none)
 |.var t p,.ptr id []=>.getH id fun
  |some (.var b c)=>bif b==t&&p.fits t then(ext p c).bind fun r=>.ret (r.1,⟨id::r.2.tk,r.2.br⟩) else .fail
  |_=>.fail
 |.map d q,.mp id=>.getH id fun
  |some (.map k e m)=>.opt (Kw (.sl (.prod k e)) (.sl (.prod d q)) m) fun y=>.ret (y,⟨[id],[]⟩)
  |_=>.fail
 |.rows t true,.vw id=>.getH id fun
  |some (.rows b xs _ none)=>.opt (Kw (.sl (.sl b)) (.sl (.sl t)) xs) fun y=>.ret (y,⟨[id],[]⟩)
  |_=>.fail
 |.rows _ false,_=>.ret ((),ZG.none)
 |.mrows d t,.mp id=>.getH id fun
  |some (.mrows k b m _ none)=>.opt (Kw (.sl (.prod k (.sl b))) (.sl (.prod d (.sl t))) m) fun y=>.ret (y,⟨[id],[]⟩)
  |_=>.fail
 |.it _ _,_=>.ret ((),ZG.none)
 |.bld T e true,.ptr id []=>.getH id fun
  |some (.bld h j i)=>bif Vd h T&&Vd j e then .ret (i,⟨[id],[]⟩) else .fail
  |_=>.fail
 |.bld _ _ false,_=>.ret ((),ZG.none)
 |.agg l,.agg vs=>Zae l vs
 |.fn f l,.fn n vs=>bif Vd n f then Zae l vs else .fail
 |.pd _,_=>.ret ((),ZG.none)
 |.ro _,_=>.ret ((),ZG.none)
 |.nilr,_=>.ret ((),ZG.none)
 |.nils,_=>.ret ((),ZG.none)
 |.any,_=>.ret ((),ZG.none)
 |_,_=>.fail
def Zae:(l:Pats)->Zq->Zw (WB l×ZG)
 |.nil,.nil=>.ret ((),ZG.none)
 |.cons p l,.cons v vs=>bif ZfS p v then(JI p v).bind fun x=>(Zae l vs).bind fun y=>.ret ((x.1,y.1),x.2.app y.2) else .fail
 |_,_=>.fail
end
def Zba:(l:Pats)->Zq->Zw (WB l×ZG)
 |.nil,_=>.ret ((),ZG.none)
 |.cons p l,.cons v vs=>bif p.back then(JI p v).bind fun x=>(Zba l vs).bind fun y=>.ret ((x.1,y.1),x.2.app y.2)
   else(Zba l vs).bind fun y=>.ret ((Zlq p,y.1),y.2)
 |_,_=>.fail
def Zaf(E:Km)(s:AS):List ResultVar->Zw Zq
 |[]=>.ret .nil
 |.tmp t::l=>(Zaf E s l).bind fun vs=>.ret (.cons (s.F t) vs)
 |.cell a T::l=>.opt (E.ty T) fun t=>(match s.F a with
  |.ptr id p=>.getH id fun
   |some (.var _ c)=>(H8 c p).bind fun v=>bif v.fits t&&v.solid then(Zaf E s l).bind fun vs=>.ret (.cons v vs) else .fail
   |_=>.fail
  |_=>.fail)
def GA:Pats->Nat->List Nat
 |.nil,_=>[]
 |.cons p l,n=>(bif p.back then [n] else [])++GA l (n+1)
def Pats.len:Pats->Nat
 |.nil=>0
 |.cons _ l=>l.len+1
def ZcN(F:Nat->AV):Pats->Nat->Zq
 |.nil,_=>.nil
 |.cons _ l,n=>.cons (F n) (ZcN F l (n+1))
def Zb4(E:Km)(results:Array ResultVar)(args res:Pats)(fz:List Nat)(e:Ex)(s:AS):Option (WB args×KJ res):=
 match e with
 |.exit _=>none
 |.jump _=>none
 |_=>((Zaf E s results.toList).bind fun vs=>(Wx res vs).bind fun r=>(Zba args (ZcN s.F args 0)).bind fun o=>.ret ((o.1,r.1),o.2.app r.2)).runK s.H [] fun r _=>
   bif r.2.ok fz&&J7 r.2.br fz then some r.1 else none
def Zcl(ks:List Nat)(f:Zq)(e:AH)(s:AS):List (Nat×Nat×Nat)->Bool
 |[]=>true
 |k::l=>(match f.nth k.1,s.F k.1 with
  |some (.ptr id []),.ptr d []=>(match e id,s.H d with
   |some (.var T (.agg c)),some (.var h (.agg i))=>(match c.nth k.2.1,i.nth k.2.1 with
    |some (.vw a),some (.vw b)=>Vd a b&&h==T&&Vd (Rl T k.2.1) k.2.2&&KX k.1 ks
    |_,_=>false)
   |_,_=>false)
  |_,_=>false) &&Zcl ks f e s l
noncomputable def GD(E:Km)(body:Code)(results:Array ResultVar)(h:WL)(args res:Pats){α:Type}(pack:WB args×KJ res->α)(x:KJ args)(kp:List (Nat×Nat×Nat):=[]):Option α:=
 let r:=KM args x 0
 Wa body h {E with ks:=GA args 0} α ⟨r.1.toF,Xt r.2.1,r.2.2,[]⟩ fun e s=>
  (Zb4 E results args res [] e s).bind fun y=>bif Zcl (GA args 0) r.1 (Xt r.2.1) s kp then some (pack y) else none
def mkE(d:List (Nat×Ty))(ms:List (Nat×Ty×Ty))(c:List (Nat×Nat))(rws zxs:List Nat)(m:List (Nat×List Spec))(nt:Nat)(b:List (Nat×Nat):=[]):Km:=
 {ty:=fun n=>d.lookup n,mty:=fun n=>ms.lookup n,pk:=fun n=>(c.lookup n).getD 0,rw:=fun n=>rws.contains n,zx:=fun n=>zxs.contains n,bd:=fun n=>b.lookup n,specs:=fun n=>(m.lookup n).getD [],nt:=nt,ks:=[] }
def HK(f:Func):Code:=match f.body with
 |some b=>b
 |none=>.skip
end Tr
end
section
namespace Tr
open Go
def GI(agg:Bool)(cs:List Value):Value:=if agg then .agg cs.toArray else cs.headD undef
theorem Rd.oneCell{w:World}{I:Nat->Prop} :∀(t:Ty) (x:El t) (cs:List Value),Rd w I t x cs->∀v∈cs,v.oneCell' =true
 |.int _,_,_,h=>by rw[h];simp [Vc]
 |.bool,_,_,h=>by rw[h];simp [Vc]
 |.str,_,_,h=>by rw[h];simp [Vc]
 |.sl t,x,cs,h=>by
  obtain⟨a,cap,f,e,_⟩:=h
  rw[e];simp [Vc]
 |.unit,_,_,h=>by rw[h];simp
 |.prod a b,x,cs,h=>by
  obtain⟨q,r,e,i,j⟩:=h;rw[e];intro v d;rcases Vla.1 d with d|d
  ·exact Rd.oneCell a _ _ i v d
  ·exact Rd.oneCell b _ _ j v d
 |.arr n t,x,cs,h=>by
  obtain⟨e,f,i,j⟩:=h;rw[i];intro v d;obtain⟨c,k,d⟩:=List.mem_flatten.1 d
  exact j.all_right (p:=fun c=>∀v∈c,v.oneCell' =true) (fun y c m=>Rd.oneCell t y c m) c k v d
 |.ref,_,_,h=>h.elim
 |.pt t,x,cs,h=>by obtain⟨a,rfl⟩:=GX.length h;simp [Vc]
 |.lk a b,x,cs,h=>by obtain⟨p,rfl⟩:=HY.length h;simp [Vc]
 |.pn t,x,cs,h=>by obtain⟨a,rfl⟩:=GW.length h;simp [Vc]
mutual
theorem CV.oneCell{w:World}{g:Gh} :∀(a:AV) (cs:List Value),a≠ .junk->CV w g a cs->(∀t,a.fits t=true->∀v∈cs,v.oneCell' =true)
 |.d t x,cs,_,h,_,_=>Rd.oneCell t x cs (by simpa only[CV] using h)
 |.junk,_,h,_,_,_=>absurd rfl h
 |.tup _,_,_,h,_,_=>by simp [CV]at h
 |.agg l,cs,_,h,t,r=>Z5.oneCell l cs (by simpa only[CV] using h) t (by simpa only[AV.fits] using r)
 |.dp t x,cs,_,h,_,_=>by simp only[CV]at h;obtain⟨b,off,c,e,_⟩:=h;rw[e];simp [Vc]
 |.ptr id p,cs,_,h,_,_=>by simp only[CV]at h;obtain⟨_,o,t,b,_,_,q⟩:=h;rw[q];simp [Vc]
 |.vw id,cs,_,h,t,r=>by simp only[CV]at h;rw[h.2.1];intro v j;simp at j;rw[j];exact h.2.2
 |.vs id lo n,cs,_,h,_,_=>by
  simp only[CV]at h
  rcases h.2 with ⟨_,_,_,h⟩|⟨b,len,cap,m,_,_,_,_,h⟩<;>rw[h]<;>simp [Vc]
 |.vp id i p,cs,_,h,_,_=>by simp only[CV]at h;obtain⟨_,o,t,b,_,_,q⟩:=h;rw[q];simp [Vc]
 |.mp id,cs,_,h,_,_=>by simp only[CV]at h;obtain⟨_,b,_,q⟩:=h;rw[q];simp [Vc]
 |.fn f l,cs,_,h,_,_=>by simp only[CV]at h;obtain⟨D,e,_⟩:=h;rw[e];simp [Vc]
 |.nilr p,cs,_,h,_,_=>by
  have h:=Za3 h;rcases h with h|h|h<;>rw[h]<;>simp [Vc]
 |.nils,cs,_,h,_,_=>by simp only[CV]at h;rw[h];simp [Vc]
 |.jk n,cs,_,h,_,_=>by simp only[CV]at h;exact h.2
 |.nw id ver C k,cs,_,h,_,_=>by simp only[CV]at h;obtain⟨_,_,v,e,s,_⟩:=h;rw[e];intro u y;simp at y;rw[y];exact s
 |.np id ver C k i p,cs,_,h,_,_=>by simp only[CV]at h;obtain⟨_,_,a,e,_⟩:=h;rw[e];simp [Vc]
theorem Z5.oneCell{w:World}{g:Gh} :∀(l:Zq) (cs:List Value),Z5 w g l cs->(∀t,l.fits t=true->∀v∈cs,v.oneCell' =true)
 |.nil,cs,h,_,_=>by simp only[Z5]at h;rw[h];simp
 |.cons a l,cs,h,t,r=>by
  simp only[Z5]at h;obtain⟨z,A,e,s,q⟩:=h
  cases t<;>simp only[Zq.fits,Vb,Vj]at r
  rw[e];intro v j;rcases Vla.1 j with j|j
  ·refine CV.oneCell a z ?_ s _ r.1 v j;rintro rfl;simp [AV.fits]at r
  ·exact Z5.oneCell l A q _ r.2 v j
end
mutual
theorem CV.length{w:World}{g:Gh} :∀(a:AV) (t:Ty) (cs:List Value),a.fits t=true->CV w g a cs->cs.length=t.size
 |.d k x,t,cs,b,h=>by
  simp only[AV.fits,Ks]at b;subst b
  exact Rd.length _ _ _ (by simpa only[CV] using h)
 |.junk,_,_,b,_=>by simp [AV.fits]at b
 |.tup _,_,_,b,_=>by simp [AV.fits]at b
 |.agg l,t,cs,b,h=>Z5.length l t cs (by simpa only[AV.fits] using b) (by simpa only[CV] using h)
 |.jk n,t,cs,b,h=>by
  simp only[AV.fits,Ks]at b
  simp only[CV]at h;rw[h.1,b]
 |.dp _ _,t,cs,b,h=>by
  cases t<;>simp [AV.fits]at b
  all_goals (simp only[CV]at h;obtain⟨_,_,_,c,_⟩:=h;rw[c];rfl)
 |.ptr _ _,t,cs,b,h=>by
  cases t<;>simp [AV.fits]at b
  all_goals (simp only[CV]at h;obtain⟨_,_,_,_,_,_,c⟩:=h;rw[c];rfl)
 |.vp _ _ _,t,cs,b,h=>by
  cases t<;>simp [AV.fits]at b
  simp only[CV]at h;obtain⟨_,_,_,_,_,_,c⟩:=h;rw[c];rfl
 |.mp _,t,cs,b,h=>by
  cases t<;>simp [AV.fits]at b
  simp only[CV]at h;obtain⟨_,_,_,c⟩:=h;rw[c];rfl
 |.fn _ _,t,cs,b,h=>by
  cases t<;>simp [AV.fits]at b
  simp only[CV]at h;obtain⟨_,c,_⟩:=h;rw[c];rfl
 |.nilr p,t,cs,b,h=>by
  cases t<;>simp [AV.fits]at b
  all_goals (have h:=Za3 h;rcases h with h|h|h<;>rw[h]<;>rfl)
 |.vw _,t,cs,b,h=>by
  cases t<;>simp [AV.fits]at b
  simp only[CV]at h;rw[h.2.1];rfl
 |.vs _ _ _,t,cs,b,h=>by
  cases t<;>simp [AV.fits]at b
  simp only[CV]at h;rcases h.2 with ⟨_,_,_,c⟩|⟨_,_,_,_,_,_,_,_,c⟩<;>rw[c]<;>rfl
 |.nils,t,cs,b,h=>by
  cases t<;>simp [AV.fits]at b
  simp only[CV]at h;rw[h];rfl
 |.nw _ _ _ _,t,cs,b,h=>by
  cases t<;>simp [AV.fits]at b
  simp only[CV]at h;obtain⟨_,_,v,c,_⟩:=h;rw[c];rfl
 |.np _ _ _ _ _ _,t,cs,b,h=>by
  cases t<;>simp [AV.fits]at b
  simp only[CV]at h;obtain⟨_,_,a,c,_⟩:=h;rw[c];rfl
theorem Z5.length{w:World}{g:Gh} :∀(l:Zq) (t:Ty) (cs:List Value),l.fits t=true->Z5 w g l cs->cs.length=t.size
 |.nil,t,cs,b,h=>by
  cases t<;>simp [Zq.fits]at b
  simp only[Z5]at h;rw[h];rfl
 |.cons a l,t,cs,b,h=>by
  cases t<;>simp only[Zq.fits,Vb,Vj]at b
  simp only[Z5]at h;obtain⟨e,f,c,i,j⟩:=h;rw[c,Vl,CV.length a _ e b.1 i,Z5.length l _ f b.2 j];rfl
end
theorem KR{t b:Ty}{x:El t}{y:El b}(h:Kw t b x=some y):∃e:t=b,y=e▸x:=by
 unfold Kw at h
 grind
theorem Zdu{t:Ty}{x y:El t}(h:Kw t t x=some y):y=x:=by obtain⟨e,h⟩:=KR h;omega
theorem D9{css:List (List Value)}{i:Nat}{c:List Value}(h:css[i]? =some c)(n:Nat)(e:∀c∈css,c.length=n):
 css.flatten=(css.take i).flatten++c++(css.drop (i+1)).flatten/\(css.take i).flatten.length=i*n/\
 ∀c',(css.set i c').flatten=(css.take i).flatten++c' ++(css.drop (i+1)).flatten:=by
 obtain⟨b,rfl⟩:=Vs.1 h;refine⟨?_,?_,fun c' =>?_⟩
 ·rw[<-List.flatten_append_singleton_flatten b]
 ·rw[JV fun c d=>e c (List.mem_of_mem_take d),List.length_take,Nat.min_eq_left (Nat.le_of_lt b)]
 ·rw[List.set_eq_take_append_cons_drop,Zp b];simp
where
 List.flatten_append_singleton_flatten {css:List (List Value)}{i:Nat} (b:i<css.length):css.flatten=(css.take i).flatten++css[i]++(css.drop (i+1)).flatten:=by
  have f:css=css.take i++css.drop i:=by simp
  have j:css.drop i=css[i]::css.drop (i+1):=Vea b
  grind
def At(t:Ty)(p:List Nat)(c:Ty)(cs b:List Value):Prop:= ∃o pre post,Z0 t p=some (o,c)/\cs=pre++b++post/\pre.length=o
theorem ZdV{w:World}{I:Nat->Prop}{H:AH} :∀(p:List Nat) (t:Ty) (x:El t) (l l' :List Nat) (r:DV) (cs:List Value),(Yb t x p).run H l=some (r,l')->Rd w I t x cs->
 l' =l/\ ∃j,At t p r.1 cs j/\Rd w I r.1 r.2 j:=by
 intro p t
 induction t generalizing p with
 |prod a b D G=>
  intro x l l' r cs h s;obtain⟨j,A,C,m,k⟩:=s
  match p with
  |[]=>
   simp only[Yb,Zw.run,Option.some.injEq,Va]at h;obtain⟨rfl,rfl⟩:=h
   exact⟨rfl,cs,⟨0,[],[],rfl,by simp,rfl⟩,j,A,C,m,k⟩
  |0::p=>
   simp only[Yb]at h;obtain⟨e,d,⟨o,pre,post,u,J,z⟩,q⟩:=D p x.1 l l' r j h m
   exact⟨e,d,⟨o,pre,post++A,by assumption,by grind,z⟩,q⟩
  |(n+1)::p=>
   simp only[Yb]at h;obtain⟨e,d,⟨o,pre,post,u,J,z⟩,q⟩:=G (n::p) x.2 l l' r A h k;refine⟨e,d,⟨o+a.size,j++pre,post,by simp [Z0,u],by grind,?_⟩,q⟩
   rw[Vl,Rd.length a _ _ m,z];omega
 |arr n t O=>
  intro x l l' r cs h s;obtain⟨C,f,m,k⟩:=s
  match p with
  |[]=>
   simp only[Yb,Zw.run,Option.some.injEq,Va]at h;obtain⟨rfl,rfl⟩:=h
   exact⟨rfl,cs,⟨0,[],[],rfl,by simp,rfl⟩,C,f,m,k⟩
  |i::p=>
   simp only[Yb,Zw.run]at h
   cases K:(x:List (El t))[i]? with
   |none=>grind
   |some y=>
    rw[K]at h;simp only[Za]at h;obtain⟨c,L,N⟩:=k.get i y K;obtain⟨e,d,⟨o,pre,post,u,J,z⟩,q⟩:=O p y l l' r c h N;obtain⟨Q,R,_⟩:=D9 L t.size (Rd.all_length k)
    have M:i<n:=by
     grind
    refine⟨e,d,⟨o+i*t.size,(f.take i).flatten++pre,post++(f.drop (i+1)).flatten,by simp [Z0,M,u],by grind,?_⟩,q⟩
    grind
 |_=>
  intro x l l' r cs h s
  match p with
  |[]=>
   simp only[Yb,Zw.run,Option.some.injEq,Va]at h;obtain⟨rfl,rfl⟩:=h
   exact⟨rfl,cs,⟨0,[],[],rfl,by simp,rfl⟩,s⟩
  |_::_=>simp [Yb,Zw.run]at h
theorem ZeG{w:World}{I:Nat->Prop}{H:AH} :∀(p:List Nat) (t:Ty) (x:El t) (l l' :List Nat) (y:DV) (z:El t) (cs d:List Value),(Xe t x p y).run H l=some (z,l')->Rd w I t x cs->Rd w I y.1 y.2 d->
 l' =l/\ ∃o pre A post,Z0 t p=some (o,y.1)/\cs=pre++A++post/\pre.length=o/\A.length=d.length/\Rd w I t z (pre++d++post):=by
 intro p t
 induction t generalizing p with
 |prod a b O Q=>
  intro x l l' y z cs d h J r;obtain⟨A,M,N,C,m⟩:=J
  match p with
  |[]=>
   simp only[Xe,Zw.run]at h
   cases f:Kw y.1 (.prod a b) y.2 with
   |none=>grind
   |some X=>
    rw[f]at h;simp only[Za,Option.some.injEq,Va]at h;obtain⟨rfl,rfl⟩:=h;obtain⟨V,W⟩:=y;obtain⟨e,j⟩:=KR f;simp only at e;subst e;have j:=j;subst j;refine⟨rfl,0,[],cs,[],rfl,by simp,rfl,?_,by grind⟩
    rw[Rd.length _ _ _ r,N,Vl,Rd.length a _ _ C,Rd.length b _ _ m];rfl
  |0::p=>
   simp only[Xe,Zw.run_bind]at h
   cases s:(Xe a x.1 p y).run H l with
   |none=>grind
   |some q=>
    rw[s]at h;simp only[Za,Zw.run,Option.some.injEq,Va]at h;obtain⟨rfl,rfl⟩:=h;obtain⟨e,o,pre,k,post,K,S,L,D,G⟩:=O p x.1 l q.2 y q.1 A d s C r
    exact⟨e,o,pre,k,post++M,by assumption,by grind,L,D,pre++d++post,M,by simp,G,m⟩
  |(n+1)::p=>
   simp only[Xe,Zw.run_bind]at h
   cases s:(Xe b x.2 (n::p) y).run H l with
   |none=>grind
   |some q=>
    rw[s]at h;simp only[Za,Zw.run,Option.some.injEq,Va]at h;obtain⟨rfl,rfl⟩:=h;obtain⟨e,o,pre,k,post,K,S,L,D,G⟩:=Q (n::p) x.2 l q.2 y q.1 M d s m r;refine⟨e,o+a.size,A++pre,k,post,by simp [Z0,K],by grind,?_,D,A,pre++d++post,by simp,C,G⟩
    rw[Vl,Rd.length a _ _ C,L];omega
 |arr n t ih=>
  intro x l l' y z cs d h J r;obtain⟨N,u,C,m⟩:=J
  match p with
  |[]=>
   simp only[Xe,Zw.run]at h
   cases f:Kw y.1 (.arr n t) y.2 with
   |none=>grind
   |some X=>
    rw[f]at h;simp only[Za,Option.some.injEq,Va]at h;obtain⟨rfl,rfl⟩:=h;obtain⟨V,W⟩:=y;obtain⟨e,j⟩:=KR f;simp only at e;subst e;have j:=j;subst j;refine⟨rfl,0,[],cs,[],rfl,by simp,rfl,?_,by grind⟩
    rw[Rd.length _ _ _ r,C,JV (Rd.all_length m), <-m.length,N];rfl
  |i::p=>
   simp only[Xe,Zw.run]at h
   cases U:(x:List (El t))[i]? with
   |none=>grind
   |some R=>
    rw[U]at h;simp only[Za,Zw.run_bind]at h
    cases s:(Xe t R p y).run H l with
    |none=>grind
    |some q=>
     rw[s]at h;simp only[Za,Zw.run,Option.some.injEq,Va]at h;obtain⟨rfl,rfl⟩:=h;obtain⟨c,f,Z⟩:=m.get i R U;obtain⟨e,o,pre,k,post,K,S,L,D,G⟩:=ih p R l q.2 y q.1 c d s Z r;obtain⟨s1,s2,s3⟩:=D9 f t.size (Rd.all_length m)
     have Y:i<n:=by
      grind
     refine⟨e,o+i*t.size,(u.take i).flatten++pre,k,post++(u.drop (i+1)).flatten,by simp [Z0,Y,K],by grind,?_,D,?_,u.set i (pre++d++post),?_,m.set i G⟩
     all_goals grind
 |_=>
  intro x l l' y z cs d h J r
  match p with
  |[]=>
   simp only[Xe,Zw.run]at h
   cases f:Kw y.1 _ y.2 with
   |none=>rw[f]at h;grind
   |some X=>
    rw[f]at h;simp only[Za]at h;obtain⟨rfl,rfl⟩:=Vf (Option.some.inj h);obtain⟨V,W⟩:=y;obtain⟨e,j⟩:=KR f;simp only at e;subst e;have j:=j;subst j;refine⟨rfl,0,[],cs,[],rfl,by simp,rfl,?_,by grind⟩
    rw[Rd.length _ _ _ r,Rd.length _ _ _ J]
  |_::_=>simp [Xe,Zw.run]at h
theorem Zq1{w:World}{g:Gh}{H:AH} :∀(l:Zq) (t:Ty) (n:Nat) (p:List Nat) (k b:List Nat) (v:AV) (cs:List Value),
 (∀(a:AV) (t:Ty) (p k b:List Nat) (v:AV) (cs:List Value),sizeOf a<sizeOf l->(H8 a p).run H k=some (v,b)->a.fits t=true->CV w g a cs->b=k/\ ∃c f,At t p c cs f/\v.fits c=true/\CV w g v f)->
 (ZaV l n p).run H k=some (v,b)->l.fits t=true->Z5 w g l cs->b=k/\ ∃c f,At t (n::p) c cs f/\v.fits c=true/\CV w g v f:=by
 intro l
 induction l using Zq.rec (motive_1:=fun _=>True) with
 |nil=>intro t n p k b v cs _ h;simp [ZaV,Zw.run]at h
 |cons a l _ D=>
  intro t n p k b v cs i h j y
  cases t<;>simp only[Zq.fits,Vb,Vj]at j
  rename_i z G;simp only[Z5]at y;obtain⟨f,s,I,u,A⟩:=y
  cases n with
  |zero=>
   simp only[ZaV]at h;obtain⟨e,c,d,⟨o,pre,post,x,C,m⟩,q,r⟩:=i a z p k b v f (by grind) h j.1 u
   exact⟨e,c,d,⟨o,pre,post++s,by assumption,by grind,m⟩,q,r⟩
  |succ n=>
   simp only[ZaV]at h;obtain⟨e,c,d,⟨o,pre,post,x,C,m⟩,q,r⟩:=D G n p k b v s (by grind) h j.2 A;refine⟨e,c,d,⟨o+z.size,f++pre,post,by simp [Z0,x],by grind,?_⟩,q,r⟩
   rw[Vl,CV.length a _ _ j.1 u,m];omega
 |_=>trivial
theorem Zq0{w:World}{g:Gh}{H:AH}(N:Nat):∀(a:AV) (_:sizeOf a<N) (t:Ty) (p k c:List Nat) (v:AV) (cs:List Value),(H8 a p).run H k=some (v,c)->a.fits t=true->CV w g a cs->
 c=k/\ ∃j b,At t p j cs b/\v.fits j=true/\CV w g v b:=by
 induction N with
 |zero=>omega
 |succ N u=>
 intro a z t p k c v cs h f s
 match p with
 |[]=>
  have:H8 a []=.ret a:=by cases a<;>rfl
  rw[this]at h;obtain⟨rfl,rfl⟩:=Vf (Option.some.inj h)
  exact⟨rfl,t,cs,⟨0,[],[],by cases t<;>rfl,by simp,rfl⟩,f,s⟩
 |n::p=>
  cases a with
  |d m x=>
   simp only[AV.fits,Ks]at f;subst f;simp only[H8,Zw.run_bind]at h
   cases i:(Yb m x (n::p)).run H k with
   |none=>grind
   |some q=>
    rw[i]at h;simp only[Za,Zw.run]at h;obtain⟨rfl,rfl⟩:=Vf (Option.some.inj h);obtain⟨e,b,r,y⟩:=ZdV (n::p) m x k q.2 q.1 cs i (by assumption)
    exact⟨e,q.1.1,b,r,by simp [AV.fits],by assumption⟩
  |agg l=>
   simp only[H8]at h
   exact Zq1 l t n p k c v cs (by grind) h (by assumption) (by assumption)
  |_=>simp [H8,Zw.run]at h
theorem Zgk{w:World}{g:Gh}{H:AH}{a:AV}{t:Ty}{p k b:List Nat}{v:AV}{cs:List Value}(h:(H8 a p).run H k=some (v,b))(f:a.fits t=true)(e:CV w g a cs):
 b=k/\ ∃d c,At t p d cs c/\v.fits d=true/\CV w g v c:=Zq0 (sizeOf a+1) a (by omega) t p k b v cs h f e
theorem ZjC{w:World}{g:Gh} :∀(t:Ty) (x:El t) (cs:List Value),(Ya t x).fits t=true->Rd w g.I t x cs->Z5 w g (Ya t x) cs:=by
 intro t
 induction t with
 |prod a b _ i=>
  intro x cs c h;obtain⟨d,e,f,j,k⟩:=h;simp only[Ya,Zq.fits,Vb]at c;simp only[Ya,Z5]
  exact⟨d,e,f,by assumption,by grind⟩
 |unit=>intro x cs _ h;assumption
 |_=>intro x cs c;simp [Ya,Zq.fits]at c
structure Put (t:Ty) (p:List Nat) (cs d:List Value) (o:Nat) (pre c1 post:List Value) (t1:Ty):Prop where
 off:Z0 t p=some (o,t1)
 cs:cs=pre++c1++post
 len:pre.length=o
 eq:c1.length=d.length
theorem Zms{w:World}{g:Gh}{H:AH} :∀(l:Zq) (t:Ty) (n:Nat) (p k z:List Nat) (v:AV) (m:Zq) (cs d:List Value),
 (Hg t l n p v).run H k=some (m,z)->l.fits t=true->Z5 w g l cs->CV w g v d->z=k/\ ∃o pre c post f,Put t (n::p) cs d o pre c post f/\m.fits t=true/\Z5 w g m (pre++d++post):=by
 intro l
 induction l using Zq.rec (motive_1:=fun _=>True) with
 |nil=>intro t n p k z v m cs d h;cases t<;>simp [Hg,Zw.run]at h
 |cons a l _ U=>
  intro t n p k z v m cs d h b N I
  cases t<;>simp only[Zq.fits,Vb,Vj]at b
  rename_i i O;simp only[Z5]at N;obtain⟨c,j,V,A,C⟩:=N
  cases n with
  |zero=>
   match p with
   |[]=>
    simp only[Hg]at h
    cases u:v.fits i with
    |false=>rw[u]at h;simp [Zw.run]at h
    |true=>
     rw[u]at h;obtain⟨rfl,rfl⟩:=Vf (Option.some.inj (by assumption))
     refine⟨rfl,0,[],c,j,i,⟨by cases i<;>rfl,by grind,rfl,?_⟩,by simp [Zq.fits,u,b.2],d,j,by simp,I,C⟩
     rw[CV.length a i c b.1 A,CV.length v i d u I]
   |q::p=>
    cases a with
    |d K x=>
     have S:K=i:=by simpa [AV.fits] using b.1
     subst S
     cases v with
     |d f y=>
      simp only[Hg,Zw.run_bind]at h
      cases s:(Xe K x (q::p) ⟨f,y⟩).run H k with
      |none=>grind
      |some r=>
       rw[s]at h;obtain⟨rfl,rfl⟩:=Vf (Option.some.inj (by assumption));obtain⟨e,o,pre,J,post,L,Q,D,G,M⟩:=ZeG (q::p) K x k r.2 ⟨f,y⟩ r.1 c d s (by assumption) (by assumption)
       exact⟨e,o,pre,J,post++j,f,⟨by assumption,by grind,D,G⟩,by simp [Zq.fits,AV.fits,b.2],pre++d++post,j,by simp,by assumption,C⟩
     |_=>simp [Hg,Zw.run]at h
    |_=>simp [Hg,Zw.run]at h
  |succ n=>
   simp only[Hg,Zw.run_bind]at h
   cases s:(Hg O l n p v).run H k with
   |none=>grind
   |some r=>
    rw[s]at h;obtain⟨rfl,rfl⟩:=Vf (Option.some.inj (by assumption));obtain⟨e,o,pre,J,post,f,⟨L,Q,D,G⟩,M,R⟩:=U O n p k r.2 v r.1 j d s b.2 C I;refine⟨e,o+i.size,c++pre,J,post,f,⟨by simp [Z0,L],by grind,?_,G⟩,by simp [Zq.fits,b.1,M],c,pre++d++post,by simp,A,R⟩
    rw[Vl,CV.length a _ _ b.1 A,D];omega
 |_=>trivial
theorem WE(t:Ty):Z0 t []=some (0,t):=by cases t<;>rfl
theorem Zmr{w:World}{g:Gh}{H:AH}{t:Ty}{c:AV}{p k A:List Nat}{v c' :AV}{cs d:List Value}(h:(Dy t c p v).run H k=some (c',A))(O:c.fits t=true)(R:CV w g c cs)(D:CV w g v d)
 (m:cs.length=t.size):A=k/\ ∃o pre C post f,Put t p cs d o pre C post f/\c'.fits t=true/\CV w g c' (pre++d++post):=by
 match p with
 |[]=>
  simp only[Dy]at h
  cases z:v.fits t with
  |false=>rw[z]at h;simp [Zw.run]at h
  |true=>
   rw[z]at h;obtain⟨rfl,rfl⟩:=Vf (Option.some.inj (by assumption));refine⟨rfl,0,[],cs,[],t,⟨WE t,by simp,rfl,?_⟩,z,by grind⟩
   rw[m,CV.length v t d z D]
 |n::q=>
  cases c with
  |agg l=>
   simp only[Dy,Zw.run_bind]at h
   cases i:(Hg t l n q v).run H k with
   |none=>grind
   |some r=>
    rw[i]at h;obtain⟨rfl,rfl⟩:=Vf (Option.some.inj (by assumption));obtain⟨e,o,pre,s,post,f,j,G,N⟩:=Zms l t n q k r.2 v r.1 cs d i (by assumption) (by assumption) D
    exact⟨e,o,pre,s,post,f,j,by assumption,by assumption⟩
  |d b x=>
   have Q:b=t:=by simpa [AV.fits] using O
   subst Q;have J:Rd w g.I b x cs:=by assumption
   have other:(bif (Ya b x).fits b then(Hg b (Ya b x) n q v).bind fun l=>.ret (.agg l) else Zw.fail:Zw AV).run H k=some (c',A)->
    A=k/\ ∃o pre C post f,Put b (n::q) cs d o pre C post f/\c'.fits b=true/\CV w g c' (pre++d++post):=by
    intro h
    cases u:(Ya b x).fits b with
    |false=>rw[u]at h;simp [Zw.run]at h
    |true=>
     rw[u]at h;simp only[Zc,Zw.run_bind]at h
     cases i:(Hg b (Ya b x) n q v).run H k with
     |none=>grind
     |some r=>
      rw[i]at h;obtain⟨rfl,rfl⟩:=Vf (Option.some.inj (by assumption));obtain⟨e,o,pre,s,post,f,j,G,N⟩:=Zms _ b n q k r.2 v r.1 cs d i u (ZjC b x cs u J) D;exact⟨e,o,pre,s,post,f,j,by assumption,by assumption⟩
   cases v with
   |d f y=>
    simp only[Dy,Zw.run_bind]at h
    cases i:(Xe b x (n::q) ⟨f,y⟩).run H k with
    |none=>grind
    |some r=>
     rw[i]at h;obtain⟨rfl,rfl⟩:=Vf (Option.some.inj (by assumption));obtain⟨e,o,pre,s,post,j,K,L,M,G⟩:=ZeG (n::q) b x k r.2 ⟨f,y⟩ r.1 cs d i J (by assumption)
     exact⟨e,o,pre,s,post,f,⟨j,K,L,M⟩,by assumption,by assumption⟩
   |_=>exact other h
  |_=>simp [Dy,Zw.run]at h
end Tr
end
section
namespace Tr
open Go
def ZeZ(f:List Value->Bool)(size:Nat):Nat->List Value->Bool
 |0,cs=>cs.isEmpty
 |n+1,cs=>f (cs.take size) &&ZeZ f size n (cs.drop size)
def YP:Ty->List Value->Bool
 |.int k,[.int c n]=>k==c&&n==0
 |.bool,[.bool b]=> !b
 |.str,[.string s]=>s.data.toList.isEmpty
 |.sl _,[.slice none 0 0]=>true
 |.pt _,[.pointer none]=>true
 |.lk _ _,[.pointer none]=>true
 |.pn _,[.pointer none]=>true
 |.unit,[]=>true
 |.prod a b,cs=>YP a (cs.take a.size) &&YP b (cs.drop a.size)
 |.arr n t,cs=>ZeZ (YP t) t.size n cs
 |_,_=>false
def Zgr:List Value->Bool
 |[.pointer none]=>true
 |[.nilFunc]=>true
 |[.map none]=>true
 |_=>false
def Zgs:List Value->Bool
 |[.slice none 0 0]=>true
 |_=>false
def DF:Ty->List Value->Bool
 |.prod a b,cs=>(bif a.data then YP a (cs.take a.size) else(match a with
   |.ref=>Zgr (cs.take 1)
   |.sl _=>Zgs (cs.take 1)
   |a=>(cs.take a.size).length==a.size&& (cs.take a.size).all Vc)) &&DF b (cs.drop a.size)
 |.unit,cs=>cs.isEmpty
 |_,_=>false
def Gu(t:Ty)(cs:List Value):Bool:=
 bif t.data then YP t cs else match t with
  |.ref=>Zgr cs
  |.sl _=>Zgs cs
  |.prod a b=>DF (.prod a b) cs
  |t=>cs.length==t.size&&cs.all Vc
theorem ZcW{w:World}{I:Nat->Prop} :∀(t:Ty) (cs:List Value),YP t cs=true->Rd w I t (zeroEl t) cs:=by
 intro t
 induction t with
 |int k=>
  intro cs h
  match cs,h with
  |[.int p n],h=>
   simp only[YP,Vb,Ks]at h
   obtain⟨rfl,rfl⟩:=h;rfl
 |bool=>
  intro cs h
  match cs,h with
  |[.bool b],h=>simp only[YP,Vfa]at h;subst h;rfl
 |str=>
  intro cs h
  match cs,h with
  |[.string s],h=>
   obtain⟨⟨l⟩⟩:=s;simp only[YP,Vp]at h
   subst h;rfl
 |sl t _=>
  intro cs h
  match cs,h with
  |[.slice none 0 0],_=>exact⟨none,0,[],rfl,trivial,fun h=>absurd rfl h,Vm _⟩
 |unit=>
  intro cs h
  match cs,h with
  |[],_=>rfl
 |prod a b d e=>
  intro cs h;simp only[YP,Vb]at h
  exact⟨_,_,by simp,d _ h.1,e _ h.2⟩
 |arr n t m=>
  intro cs h;simp only[YP]at h;refine⟨by simp [zeroEl],?_⟩
  induction n generalizing cs with
  |zero=>
   simp only[ZeZ,Vp]at h;subst h
   exact⟨[],rfl,by simp [zeroEl,Fa]⟩
  |succ n f=>
   simp only[ZeZ,Vb]at h;obtain⟨c,j,i⟩:=f _ h.2;refine⟨cs.take t.size::c,?_,?_⟩
   ·rw[List.flatten_cons, <-j,Vz]
   ·simp only[zeroEl,List.replicate_succ]at i⊢
    exact⟨m _ h.1,i⟩
 |ref=>
  intro cs h
  simp [YP]at h
 |pt t _=>
  intro cs h
  match cs,h with
  |[.pointer none],_=>rfl
 |lk a b _ _=>
  intro cs h
  match cs,h with
  |[.pointer none],_=>rfl
 |pn t _=>
  intro cs h
  match cs,h with
  |[.pointer none],_=>rfl
theorem Zki{w:World}{g:Gh}{cs:List Value}(h:Zgr cs=true):CV w g (.nilr false) cs:=by
 simp only[CV]
 match cs,h with
 |[.pointer none],_=>simp
 |[.nilFunc],_=>simp
 |[.map none],_=>simp
theorem Zd2{w:World}{g:Gh}{cs:List Value}(h:Zgs cs=true):CV w g .nils cs:=by
 simp only[CV]
 match cs,h with
 |[.slice none 0 0],_=>rfl
theorem Znp{w:World}{g:Gh}{t:Ty}{cs:List Value}(h:YP (.sl t) cs=true):CV w g .nils cs:=by
 simp only[CV]
 match cs,h with
 |[.slice none 0 0],_=>rfl
theorem Ze0{w:World}{g:Gh} :∀(t:Ty) (cs:List Value),DF t cs=true->Z5 w g (Gt false t) cs/\(Gt false t).fits t=true:=by
 intro t
 induction t with
 |prod a b _ f=>
  intro cs h;simp only[DF,Vb]at h;obtain⟨j,k⟩:=f _ h.2;simp only[Gt,Z5,Zq.fits,Vb];have c:=h.1
  have key:CV w g (Hh false a) (cs.take a.size)/\(Hh false a).fits a=true:=by
   cases e:a.isSl with
   |true=>
    obtain⟨t,rfl⟩:∃t,a=.sl t:=by cases a<;>simp [Ty.isSl]at e;simp
    have i:Hh false (.sl t)=.nils:=by simp [Hh,Ty.isSl,Ze1]
    rw[i];refine⟨?_,rfl⟩
    cases d:(Ty.sl t).data with
    |true=>rw[d]at c;simp only[Zc]at c;exact Znp c
    |false=>rw[d]at c;simp only[Ze]at c;exact Zd2 c
   |false=>
   unfold Hh
   cases d:a.data with
   |true=>
    rw[d]at c;simp only[e,Vxa,Bool.or_true,Vza,Zc]at c⊢
    exact⟨by simpa only[CV] using ZcW a _ c,by simp [AV.fits]⟩
   |false=>
    rw[d]at c;simp only[Vya,Ze]at c⊢
    cases a with
    |ref=>exact⟨Zki c,rfl⟩
    |sl t=>exact⟨Zd2 c,rfl⟩
    |_=>
     simp only[Vb,Ks,Vra]at c;exact⟨by assumption,by simp [Ze1,AV.fits]⟩
  exact⟨⟨_,_,by simp,key.1,j⟩,key.2,k⟩
 |unit=>
  intro cs h;simp only[DF,Vp]at h;subst h
  exact⟨rfl,rfl⟩
 |_=>intro cs h;simp [DF]at h
theorem ZhZ{w:World}{g:Gh}{t:Ty}{cs:List Value}(h:Gu t cs=true):CV w g (XN t) cs/\(XN t).fits t=true:=by
 unfold Gu at h
 cases d:t.isSl with
 |true=>
  cases t<;>simp [Ty.isSl]at d
  rename_i t;have e:XN (.sl t)=.nils:=by simp [XN,Ty.isSl]
  rw[e];refine⟨?_,rfl⟩
  cases c:(Ty.sl t).data with
  |true=>rw[c]at h;simp only[Zc]at h;exact Znp h
  |false=>rw[c]at h;simp only[Ze]at h;exact Zd2 h
 |false=>
 unfold XN
 cases c:t.data with
 |true=>
  rw[c]at h;simp only[d,Vxa,Vza,Zc]at h⊢
  exact⟨by simpa only[CV] using ZcW t _ h,by simp [AV.fits]⟩
 |false=>
  rw[c]at h;simp only[Vya,Ze]at h⊢
  cases t with
  |ref=>exact⟨Zki h,rfl⟩
  |sl t=>exact⟨Zd2 h,rfl⟩
  |prod a b=>
   obtain⟨f,i⟩:=Ze0 (w:=w) (g:=g) _ _ h
   exact⟨by assumption,by assumption⟩
  |_=>
   simp only[Vb,Ks,Vra]at h;exact⟨by assumption,by simp [AV.fits]⟩
theorem ZuZ(t:Ty)(h:t.data=true\/(match t with|.arr _ _=>False|_=>True)):(XN t).isAgg=t.agg:=by
 unfold XN
 cases b:t.isSl with
 |true=>cases t<;>simp [Ty.isSl]at b;simp [AV.isAgg,Ty.agg]
 |false=>
 cases c:t.data with
 |true=>rfl
 |false=>
  rw[c]at h
  cases t<;>simp_all [AV.isAgg,Ty.agg,Ty.data]
theorem Zu0{w:World}{g:Gh}{t:Ty}{z:Value}(i:t.data=true)(h:Kk w g (XN t) z):Kk w g (.d t (zeroEl t)) z:=by
 cases b:t.isSl with
 |false=>
  have c:XN t=.d t (zeroEl t):=by simp [XN,i,b]
  grind
 |true=>
  cases t<;>simp [Ty.isSl]at b
  rename_i t;have c:XN (.sl t)=.nils:=by simp [XN,Ty.isSl]
  rw[c]at h;obtain⟨e,f⟩:=h;simp only[CV]at e;refine⟨?_,.inr ?_⟩
  ·simp only[CV];rw[e];exact⟨none,0,[],rfl,trivial,fun h=>absurd rfl h,Vm _⟩
  ·exact f.resolve_left (by simp)
def Ty.chain:Ty->Bool
 |.prod _ b=>b.chain
 |.unit=>true
 |_=>false
def Kb(θ:TypeId->Option Ty)(t:Ty)(d:Option TypeDesc):Bool:=
 match t,d with
 |.int k,some (.int h)=>k==h
 |.bool,some .bool=>true
 |.str,some .string=>true
 |.sl e,some (.slice E)=>θ E==some e
 |.arr n e,some (.array m E)=>n==m&&θ E==some e
 |.unit,some (.struct c)=>c.isEmpty
 |.prod a b,some (.struct c)=>(Vr c.size).all (fun f=>match c[f]? with
   |some fd=>match Z0 (.prod a b) [f] with
    |some (o,i)=>fd.offset==o&&θ fd.type==some i&&fd.name != "_"
    |none=>false
   |none=>true) && (Z0 (.prod a b) [c.size]).isNone&&b.chain
 |.pt e,some (.pointer E)=>θ E==some e
 |.pn e,some (.pointer E)=>θ E==some e
 |.lk a b,some (.pointer E)=>θ E==some (Zac a b)
 |.ref,some (.pointer _)=>true
 |.ref,some (.func _ _ _)=>true
 |.ref,some (.map _ _)=>true
 |.ref,some (.interface _)=>true
 |_,_=>false
def Zmx(P:Program)(T:TypeId):Bool:=match P.underlying T with
 |some (.slice b)=>(match P.info? b with
  |some i=>Vba i.bytes 256
  |none=>false)
 |_=>true
def ZhN(P:Program)(θ:TypeId->Option Ty)(T:TypeId)(t:Ty):Bool:=
 match P.info? T with
 |some i=>Zmx P T&&i.size==t.size&&Vba i.bytes 4096&& (match i.zero with
   |some z=>Gu t z.cells.toList&&Ka z==t.agg&& (t.data|| (match t with|.arr _ _=>false|_=>true))
   |none=>false) &&Kb θ t (P.underlying T) && !P.stoodInHeld T&& !P.eqGuardType P.depth T
 |none=>false
structure W7 (P:Program) (θ:TypeId->Option Ty) (T:TypeId) (t:Ty):Prop where
 info:∃i z,P.info? T=some i/\i.size=t.size/\i.bytes<=4096/\i.zero=some z/\Gu t z.cells.toList=true/\Ka z=t.agg
 small:∀Et i,P.underlying T=some (.slice Et)->P.info? Et=some i->i.bytes<=256
 zagg:(XN t).isAgg=t.agg
 shape:Kb θ t (P.underlying T)=true
 stood:P.stoodInHeld T=false
 guard:P.eqGuardType P.depth T=false
theorem Zut{P:Program}{θ:TypeId->Option Ty}{T:TypeId}{t:Ty}(h:ZhN P θ T t=true):W7 P θ T t:=by
 unfold ZhN at h;split at h
 ·rename_i i k;simp only[Vb,Ks]at h;obtain⟨⟨⟨⟨⟨⟨d,e⟩,f⟩,b⟩,j⟩,r⟩,s⟩:=h
  have m:∀c i,P.underlying T=some (.slice c)->P.info? c=some i->i.bytes<=256:=fun c i p q=>by unfold Zmx at d;simp_all
  split at b
  ·rename_i z n;simp only[Vb,Ks,Vva]at b;refine⟨⟨i,z,k,e,Vma f,n,b.1.1,b.1.2⟩,m,ZuZ t ?_,j,by grind,by grind⟩
   grind
  grind
 grind
section
variable {P:Program}{θ:TypeId->Option Ty}{T:TypeId}{t:Ty}
theorem W7.und(h:W7 P θ T t):∃d,P.underlying T=some d:=by
 have:=h.shape
 cases b:P.underlying T with
 |some d=>simp
 |none=>rw[b]at this;cases t<;>simp [Kb]at this
theorem W7.run_isAgg(h:W7 P θ T t)(w:World):(isAgg T).run P w=.ok t.agg w:=by
 obtain⟨d,b⟩:=h.und;have c:=h.shape;rw[b]at c;simp only[isAgg,underlying,Vg,run_program,Ve,b,Vi]
 cases t<;>cases d<;>simp_all [Kb,Ty.agg]
theorem W7.run_sizeOf(h:W7 P θ T t)(w:World):(Go.sizeOf T).run P w=.ok t.size w:=by obtain⟨i,z,b,c,_⟩:=h.info;simp only[Go.sizeOf,typeInfo,Vg,run_program,Ve,b,Vi,c]
theorem W7.run_zero(h:W7 P θ T t)(w:World):∃z,(zeroValue T).run P w=.ok z w/\ ∀w g,Kk w g (XN t) z/\(XN t).fits t=true:=by
 obtain⟨i,z,c,f,j,d,b,e⟩:=h.info;refine⟨z,?_,fun w g=>⟨⟨(ZhZ b).1,.inr ?_⟩,(ZhZ (w:=w) (g:=g) b).2⟩⟩
 ·simp only[zeroValue,typeInfo,Vg,run_program,Ve,c,Vi,d]
 ·rw[h.zagg,e]
theorem Zu2:∀(t:Ty) (cs:List Value),t.chain=true->t.data=true->YP t cs=true->DF t cs=true:=by
 intro t
 induction t with
 |prod a b _ d=>
  intro cs e c h;simp only[Ty.data,Vb]at c;simp only[YP,Vb]at h;simp only[DF,c.1,Zc,Vb]
  exact⟨h.1,d _ (by assumption) c.2 h.2⟩
 |unit=>
  intro cs _ _ h
  cases cs with
  |nil=>rfl
  |cons v l=>assumption
 |_=>intro cs e;simp [Ty.chain]at e
theorem Znq{a b:Ty}{cs:List Value}(d:b.chain=true)(h:Gu (.prod a b) cs=true):DF (.prod a b) cs=true:=by
 unfold Gu at h
 cases c:(Ty.prod a b).data with
 |true=>rw[c]at h;exact Zu2 _ _ (by assumption) c h
 |false=>grind
theorem W7.chain{a b:Ty}(h:W7 P θ T (.prod a b)):b.chain=true:=by
 have c:=h.shape;unfold Kb at c
 grind
theorem W7.run_zerox(h:W7 P θ T t)(x:Bool)(w:World):∃z,(zeroValue T).run P w=.ok z w/\ ∀w g,Kk w g (ZcV x t) z/\(ZcV x t).fits t=true:=by
 have c:ZcV x t=XN t\/ ∃a b,t=.prod a b/\ZcV x t=.agg (Gt false (.prod a b)):=by
  cases x with
  |false=>exact .inl rfl
  |true=>cases t with
   |prod a b=>exact .inr ⟨a,b,rfl,rfl⟩
   |_=>exact .inl rfl
 rcases c with c|⟨a,b,rfl,c⟩
 ·rw[c];exact h.run_zero w
 ·rw[c];obtain⟨i,z,d,j,k,e,f,m⟩:=h.info;refine⟨z,?_,fun w g=>?_⟩
  ·simp only[zeroValue,typeInfo,Vg,run_program,Ve,d,Vi,e]
  ·obtain⟨n,p⟩:=Ze0 (w:=w) (g:=g) _ _ (Znq h.chain f);exact⟨⟨by assumption,.inr (by assumption)⟩,by assumption⟩
def YQ(w:World)(b o:Nat)(cs:List Value):Prop:= ∀j v,cs[j]? =some v->w.cell? ⟨b,o+j,none⟩=some v
theorem YQ.add{w:World}{b o:Nat}{cs:List Value}(h:YQ w b o cs):∀j v,cs[j]? =some v->w.cell? ((⟨b,o,none⟩:Addr).add j)=some v:=by
 intro j v c;unfold Addr.add;split
 ·rename_i d;subst d;exact h 0 v c
 ·exact h j v c
theorem KH.at{w:World}{b o:Nat}{cs:List Value}(h:KH w b o cs):YQ w b o cs:=by intro j v d;obtain⟨c,rfl⟩:=Vs.1 d;exact h j c
theorem YQ.of_heap{w:World}{b:Nat}{cs:Array Value}{e:TypeId}{fr:Nat×Nat}(h:w.heap[b]? =some (.cells cs e fr)){pre c post:List Value}(d:cs.toList=pre++c++post):YQ w b pre.length c:=by
 intro j v f;simp only[Vy,h,Vu,Vj,if_false];rw[<-Array.getElem?_toList,d,Vqa,Vq (by omega)]
 grind
theorem Zml(h:W7 P θ T t){w:World}{b o:Nat}{cs:List Value}(c:YQ w b o cs)(f:cs.length=t.size)(d:t.agg=false->∃v,cs=[v]):
 (loadVar T ⟨b,o,none⟩).run P w=.ok (GI t.agg cs) w:=by
 simp only[loadVar,Vg,h.run_isAgg,Ve]
 cases e:t.agg with
 |true=>
  simp only[if_true,Vg,h.run_sizeOf,Ve, <-f,run_loadCells_list w _ cs c.add,Vi,GI]
 |false=>
  obtain⟨v,rfl⟩:=d e;simp [GI];have:=c 0 v rfl
  grind
theorem ZbH{w:World}{g:Gh}{a:AV}{cs:List Value}(h:CV w g a cs)(d:a.fits t=true)(f:a.isAgg=t.agg):Kk w g a (GI t.agg cs)/\(t.agg=false->∃v,cs=[v]):=by
 have e:a≠ .junk:=by rintro rfl;simp [AV.fits]at d
 have c:=CV.oneCell a cs e h t d;have b:=CV.length a t cs d h
 cases i:t.agg with
 |true=>exact⟨⟨by assumption,.inr (by rw[f,i];rfl)⟩,by simp⟩
 |false=>
  have j:t.size=1:=by cases t<;>simp_all [Ty.agg,Ty.size]
  rw[j]at b
  match cs,b with
  |[v],_=>
   have k:=c v (by simp);refine⟨⟨?_,.inr ?_⟩,by simp⟩
   ·have:v.cells= #[v]:=by cases v<;>simp_all [Vk,Vc]
    simpa [GI,this] using h
   ·rw[f,i];cases v<;>simp_all [GI,Ka,Vc]
end
theorem ZqI{a:AV}{t:Ty}(h:a.fits t=true):a.isAgg=t.agg\/ ∃n,a=.jk n:=by
 cases a with
 |d b x=>simp only[AV.fits,Ks]at h;subst h;exact .inl rfl
 |agg l=>cases l<;>cases t<;>simp_all [AV.fits,Zq.fits,AV.isAgg,Ty.agg]
 |jk n=>simp
 |_=>cases t<;>simp_all [AV.fits,AV.isAgg,Ty.agg]
end Tr
end
section
namespace Tr
open Go
section
variable {α β:Type}{H:AH}{l l' :List Nat}
theorem Zi{a x:α} :(Zw.ret a).run H l=some (x,l')↔a=x/\l=l' :=by simp [Zw.run]
theorem Zb{x:α×List Nat} :(Zw.fail:Zw α).run H l=some x↔False:=by simp [Zw.run]
theorem ZC{o:Option β}{k:β->Zw α}{x:α×List Nat} :(Zw.opt o k).run H l=some x↔∃b,o=some b/\(k b).run H l=some x:=by
 cases o<;>simp [Zw.run]
theorem Z1{id:Nat}{k:Option K0->Zw α}{x:α×List Nat} :(Zw.getH id k).run H l=some x↔(k (H id)).run H (id::l)=some x:=Iff.rfl
theorem Zti{b:Bool}{k:Bool->Zw α}{x:α×List Nat} :(Zw.bool b k).run H l=some x↔(k b).run H l=some x:=Iff.rfl
theorem Z4{a:Zw β}{f:β->Zw α}{x:α×List Nat} :(a.bind f).run H l=some x↔∃y m,a.run H l=some (y,m)/\(f y).run H m=some x:=by
 rw[Zw.run_bind]
 cases a.run H l with
 |none=>simp
 |some r=>
  obtain⟨y,m⟩:=r;simp only[Za,Option.some.injEq,Va];exact⟨fun h=>⟨y,m,⟨rfl,rfl⟩,h⟩,fun⟨e,d,⟨b,c⟩,h⟩=>by subst b;subst c;exact h⟩
theorem ZL{b:Bool}{x y:Zw α}{z:α×List Nat} :(bif b then x else y).run H l=some z↔(b=true/\x.run H l=some z)\/(b=false/\y.run H l=some z):=by
 cases b<;>simp
end
theorem KU{v c:Value}(h:v.cells.toList=[c])(b:Ka v=false):v=c:=by
 cases v<;>simp_all [Vk,Ka]
section
variable {w:World}{g:Gh}
theorem VR.int{k:IntKind}{n:Int}{v:Value}(h:VR w g (.d (.int k) n) v):v=.int k n:=by obtain⟨b,c⟩:=h;simp only[CV,Rd]at b;exact KU b (by simpa [AV.isAgg,Ty.agg] using c)
theorem VR.bool{b:Bool}{v:Value}(h:VR w g (.d .bool b) v):v=.bool b:=by obtain⟨c,e⟩:=h;simp only[CV,Rd]at c;exact KU c (by simpa [AV.isAgg,Ty.agg] using e)
theorem VR.str{s:List UInt8}{v:Value}(h:VR w g (.d .str s) v):v=.string ⟨s.toArray⟩:=by obtain⟨b,c⟩:=h;simp only[CV,Rd]at b;exact KU b (by simpa [AV.isAgg,Ty.agg] using c)
theorem VR.sl{t:Ty}{xs:List (El t)}{v:Value}(h:VR w g (.d (.sl t) xs) v):∃a cap css,v=.slice a xs.length cap/\Fa (Rd w g.I t) xs css/\
 (xs≠ []->∃b off,a=some ⟨b,off,none⟩/\g.I b/\KH w b off css.flatten)/\xs.length<=cap:=by
 obtain⟨c,e⟩:=h;simp only[CV,Rd]at c;obtain⟨a,cap,css,f,i,j⟩:=c;exact⟨a,cap,css,KU f (by simpa [AV.isAgg,Ty.agg] using e),i,j⟩
theorem VR.ptr{id:Nat}{p:List Nat}{v:Value}(h:VR w g (.ptr id p) v):g.K id/\ ∃o t b,Z0 (g.ty id) p=some (o,t)/\g.blk id=some b/\v=.pointer (some ⟨b,o,none⟩):=by obtain⟨c,d⟩:=h;simp only[CV]at c;obtain⟨j,o,t,b,e,f,i⟩:=c;exact⟨j,o,t,b,e,f,KU i (by simpa [AV.isAgg] using d)⟩
theorem VR.vp{id i:Nat}{p:List Nat}{v:Value}(h:VR w g (.vp id i p) v):g.K id/\ ∃o t b,Z0 (g.ty id) p=some (o,t)/\g.blk id=some b/\v=.pointer (some ⟨b,i* (g.ty id).size+o,none⟩):=by obtain⟨c,d⟩:=h;simp only[CV]at c;obtain⟨k,o,t,b,e,f,j⟩:=c;exact⟨k,o,t,b,e,f,KU j (by simpa [AV.isAgg] using d)⟩
theorem VR.dp{t:Ty}{x:El t}{v:Value}(h:VR w g (.dp t x) v):∃b off c,v=.pointer (some ⟨b,off,none⟩)/\g.I b/\KH w b off c/\Rd w g.I t x c:=by obtain⟨d,e⟩:=h;simp only[CV]at d;obtain⟨b,off,c,f,i⟩:=d;exact⟨b,off,c,KU f (by simpa [AV.isAgg] using e),i⟩
theorem VR.vw{id:Nat}{v:Value}(h:VR w g (.vw id) v):g.K id/\v=g.slv id:=by obtain⟨b,c⟩:=h;simp only[CV]at b;exact⟨b.1,KU b.2.1 (by simpa [AV.isAgg] using c)⟩
theorem VR.vs{id lo n:Nat}{v:Value}(h:VR w g (.vs id lo n) v):g.K id/\Zbk (g.slv id) (g.ty id).size lo n [v]:=by
 obtain⟨b,c⟩:=h;simp only[CV]at b;refine⟨b.1,?_⟩;have d:Ka v=false:=by simpa [AV.isAgg] using c
 have:v.cells.toList=[v]:=by cases v<;>simp_all [Vk,Ka]
 rw[this]at b;exact b.2
theorem VR.nw{id ver:Nat}{b:Ty}{k:El b}{v:Value}(h:VR w g (.nw id ver b k) v):g.K id/\ver<=g.ver id/\v.oneCell' =true/\(g.ver id=ver->v=g.row id b k):=by obtain⟨c,d⟩:=h;simp only[CV]at c;obtain⟨j,m,u,e,f,i⟩:=c;have:v=u:=KU e (by simpa [AV.isAgg] using d);subst this;exact⟨j,m,f,i⟩
theorem VR.np{id ver:Nat}{c:Ty}{k:El c}{i:Nat}{p:List Nat}{v:Value}(h:VR w g (.np id ver c k i p) v):g.K id/\ver<=g.ver id/\ ∃a,v=.pointer (some a)/\
 (g.ver id=ver->∃b len cap o t,g.row id c k=.slice (some ⟨b,0,none⟩) len cap/\Z0 (Di (g.ty id)) p=some (o,t)/\a=⟨b,i* (Di (g.ty id)).size+o,none⟩):=by
 obtain⟨d,e⟩:=h;simp only[CV]at d;obtain⟨m,n,a,f,j⟩:=d;exact⟨m,n,a,KU f (by simpa [AV.isAgg] using e),j⟩
theorem VR.mp{id:Nat}{v:Value}(h:VR w g (.mp id) v):g.K id/\ ∃b,g.blk id=some b/\v=.map (some b):=by obtain⟨c,d⟩:=h;simp only[CV]at c;obtain⟨i,b,e,f⟩:=c;exact⟨i,b,e,KU f (by simpa [AV.isAgg] using d)⟩
theorem VR.fn{f:FuncId}{l:Zq}{v:Value}(h:VR w g (.fn f l) v):∃b:List Value,v=.func (.func f) #[] b.toArray/\Z5 w g l b:=by obtain⟨c,d⟩:=h;simp only[CV]at c;obtain⟨b,e,i⟩:=c;exact⟨b,KU e (by simpa [AV.isAgg] using d),i⟩
theorem VR.nils{v:Value}(h:VR w g .nils v):v=.slice none 0 0:=by obtain⟨b,c⟩:=h;simp only[CV]at b;exact KU b (by simpa [AV.isAgg] using c)
theorem VR.nilr{v:Value}{p:Bool}(h:VR w g (.nilr p) v):v=.pointer none\/v=.nilFunc\/v=.map none:=by
 obtain⟨b,d⟩:=h;have b:=Za3 b;have c:Ka v=false:=by simpa [AV.isAgg] using d
 rcases b with h|h|h
 ·exact .inl (KU h c)
 ·exact .inr (.inl (KU h c))
 ·exact .inr (.inr (KU h c))
theorem VR.of1{a:AV}{v:Value}(h:Kk w g a v):VR w g a v:=by
 cases a with
 |tup l=>exact absurd h.1 (by simp [CV])
 |_=>exact h
theorem VR.to1{a:AV}{v:Value}(h:VR w g a v)(b:∀l,a≠ .tup l):Kk w g a v:=by
 cases a with
 |tup l=>exact absurd rfl (b l)
 |_=>exact h
theorem Je(k:IntKind)(n:Int):VR w g (.d (.int k) n) (.int k n):=⟨by simp [CV,Rd,Vk],.inr rfl⟩
theorem Xj(b:Bool):VR w g (.d .bool b) (.bool b):=⟨by simp [CV,Rd,Vk],.inr rfl⟩
theorem ZbI(s:List UInt8):VR w g (.d .str s) (.string ⟨s.toArray⟩):=⟨by simp [CV,Rd,Vk],.inr rfl⟩
theorem K8{a:AV}{v:Value}(h:CV w g a [v])(c:v.oneCell' =true)(b:a.isAgg=false):VR w g a v:=by
 apply VR.of1;refine⟨?_,.inr ?_⟩
 ·have:v.cells= #[v]:=by cases v<;>simp_all [Vk,Vc]
  simpa [this] using h
 ·rw[b];cases v<;>simp_all [Ka,Vc]
end
def Fr(w:World)(g:Gh)(F:Nat->AV)(tmps:Array Value):Prop:= ∀t,VR w g (F t) (tmps.getD t undef)
theorem Fr.mono{w w' :World}{g b:Gh}{F:Nat->AV}{tmps:Array Value}(d:Kj g.I w w')(c:g.Le b)(h:Fr w g F tmps):Fr w' b F tmps:=fun t=>(h t).mono d c
theorem ZnH{w:World}{g:Gh}(v:Value):VR w g (Zdn v) v:=by
 unfold Zdn;split
 ·exact Xj _
 ·exact Je _ _
 ·rename_i s;obtain⟨⟨l⟩⟩:=s;exact ZbI l
 ·exact⟨by simp [CV,Vk],.inr rfl⟩
 ·exact⟨by simp [CV,Vk],.inr rfl⟩
 ·exact⟨by simp [CV,Vk],.inr rfl⟩
 ·exact⟨by simp [CV,Vk],.inr rfl⟩
 ·exact DO
theorem Fr.eval{w:World}{g:Gh}{F:Nat->AV}{a:Act}(h:Fr w g F a.tmps)(x:Operand):VR w g (ZB F x) (a.eval x):=by
 cases x with
 |tmp t=>exact h t
 |const v=>exact ZnH v
 |global i=>exact DO
 |func f=>exact⟨by simp [CV,Z5,ZB,Act.eval,Vk],.inr rfl⟩
def Zx(B:Kd)(H' :AH)(w:World)(g:Gh)(nid:Nat)(v:AV)(r:Result Next):Prop:=
 ∃val b c d,(r=.ok (.value val) b\/(r=.ok .skip b/\val=undef))/\RH B H' b c d/\g.Le c/\Kj g.I w b/\VR b c v val/\
  ∀id,c.K id->g.K id\/(nid<=id/\id<nid+Ws)
theorem Zx.pure{B:Kd}{H:AH}{w:World}{g:Gh}{ow:Nat->Nat->Prop}{nid:Nat}{v:AV}{val:Value}{r:Result Next}(b:RH B H w g ow)(c:r=.ok (.value val) w)(d:VR w g v val):Zx B H w g nid v r:=
 ⟨val,w,g,ow,.inl c,b,.refl g,fun _ _=>rfl,d,fun _ h=>.inl h⟩
theorem Zx.after_le{B:Kd}{H' :AH}{w:World}{g d:Gh}{nid:Nat}{v:AV}{r:Result Next}(c:g.Le d)(s:∀id,d.K id->g.K id)(h:Zx B H' w d nid v r):Zx B H' w g nid v r:=by obtain⟨val,x,i,f,j,k,m,n,p,q⟩:=h;exact⟨val,x,i,f,j,k,c.trans m,fun b u=>n b (c.I b u),p,fun id e=>(q id e).imp (s id) fun h=>h⟩
theorem Hb{g:Gh}{nid:Nat}(b:∀id,g.K id->id<nid\/nid+Ws<=id):¬g.K nid:=fun h=>by have:=b nid h;unfold Ws at this;omega
theorem Zx.new' {B:Kd}{H:AH}{w:World}{g:Gh}{ow:Nat->Nat->Prop}{nid:Nat}{v:AV}{val:Value}{r:Result Next}{t:Ty}{sv:Value}{o:Obj}{ob:K0}(c:RH B H w g ow)(e:¬g.K nid)
 (s:r=.ok (.value val) (w.alloc o)) (q:WF (w.alloc o) (g.add nid t (some w.heap.size) sv) (fun k=>k=w.heap.size) nid ob)
 (x:VR (w.alloc o) (g.add nid t (some w.heap.size) sv) v val):Zx B (Kc H nid (some ob)) w g nid v r:=by
 have d:∀k,k<w.heap.size->(w.alloc o).heap[k]? =w.heap[k]? :=fun k i=>by show (w.heap.push o)[k]? =_;rw[Array.getElem?_push,Zf (by omega)]
 refine⟨val,w.alloc o,g.add nid t (some w.heap.size) sv,Xm ow nid (fun k=>k=w.heap.size),.inl s,?_,Gh.le_add e _ _ _,fun b p=>d b (c.ilt b p),x,?_⟩
 ·have u:(w.alloc o).heap.size=w.heap.size+1:=Array.size_push ..;refine c.add e d (by omega) rfl rfl ⟨rfl,Vm _⟩ (fun k i=>?_) q;subst i;refine⟨fun n=>absurd (c.ilt _ n) (by omega),by omega,.inr c.size,fun f j m=>?_⟩;have:=(c.sep f _ j m).2.1;omega
 ·intro id h;rcases h with rfl|h
  ·exact .inr ⟨Vm _,by unfold Ws;omega⟩
  ·exact .inl h
theorem Zx.new{B:Kd}{H:AH}{w:World}{g:Gh}{ow:Nat->Nat->Prop}{nid:Nat}{v:AV}{val:Value}{r:Result Next}{t:Ty}{sv:Value}{o:Obj}{ob:K0}(b:RH B H w g ow)(c:∀id,g.K id->id<nid\/nid+Ws<=id)
 (e:r=.ok (.value val) (w.alloc o)) (d:WF (w.alloc o) (g.add nid t (some w.heap.size) sv) (fun k=>k=w.heap.size) nid ob)
 (f:VR (w.alloc o) (g.add nid t (some w.heap.size) sv) v val):Zx B (Kc H nid (some ob)) w g nid v r:=Zx.new' b (Hb c) e d f
structure Z9 (P:Program) (E:Km):Prop where
 ty:∀T t,E.ty T=some t->W7 P E.ty T t
 mty:∀T m,E.mty T=some m->∃K V,P.underlying T=some (.map K V)/\E.ty K=some m.1/\E.ty V=some m.2
 pk:∀T,(E.pk T=1->∃e,P.underlying T=some (.pointer e))/\(E.pk T=2->∃a b c,P.underlying T=some (.func a b c))/\(E.pk T=3->∃a b,P.underlying T=some (.map a b))
 pz:∀T,E.pz T=true->∃e,P.underlying T=some (.pointer e)/\ ∀w:World,∃n,(Go.sizeOf e).run P w=.ok n w/\n≠0
 bd:∀T e,E.bd T=some e->∃z:Value,(∀w,(zeroValue T).run P w=.ok z w)/\z.cells= #[.pointer none,.slice none 0 0]
section ops
variable {P:Program}{E:Km}{B:Kd}{H:AH}{w:World}{g:Gh}{ow:Nat->Nat->Prop}{nid:Nat}{a:Act}{F:Nat->AV}{v:AV}{patch:KB}{rd:List Nat}{o:Oper}
theorem ZiH{x:Operand}(c:RH B H w g ow)(hF:Fr w g F a.tmps)(b:o.op=.move x\/o.op=.assign x)(h:(ZQ E nid o.op o.type (ZB F)).run H []=some ((v,patch),rd)):Zx B (Zr H patch) w g nid v ((execOp a.eval o).run P w):=by
 rcases b with b|b<;>rw[b]at h<;>simp only[ZQ,Zi,Va]at h<;>obtain⟨⟨rfl,rfl⟩,_⟩:=h<;>
  exact Zx.pure c (by unfold execOp;rw[b];rfl) (hF.eval x)
theorem ZoH{c x y:Operand}(d:RH B H w g ow)(hF:Fr w g F a.tmps)(b:o.op=.pick c x y)(h:(ZQ E nid o.op o.type (ZB F)).run H []=some ((v,patch),rd)):Zx B (Zr H patch) w g nid v ((execOp a.eval o).run P w):=by
 rw[b]at h;simp only[ZQ]at h;split at h
 ·rename_i t f;simp only[Zti,Zi,Va]at h;obtain⟨⟨rfl,rfl⟩,_⟩:=h;have e:=(f▸hF.eval c).bool;cases t
  ·exact Zx.pure d (by unfold execOp;rw[b];simp only[e];rfl) (hF.eval y)
  ·exact Zx.pure d (by unfold execOp;rw[b];simp only[e];rfl) (hF.eval x)
 ·simp [Zb]at h
theorem ZoF{x:Operand}(j:RH B H w g ow)(hF:Fr w g F a.tmps)(f:o.op=.nilCheck x)(h:(ZQ E nid o.op o.type (ZB F)).run H []=some ((v,patch),rd)):Zx B (Zr H patch) w g nid v ((execOp a.eval o).run P w):=by
 rw[f]at h;simp only[ZQ,ZL,Zi,Zb,ZR,Z3,Va]at h;obtain⟨i,⟨rfl,rfl⟩,_⟩:=h;have e:=hF.eval x;refine Zx.pure (val:=a.eval x) j ?_ e
 cases k:ZB F x<;>rw[k]at i e<;>simp [Zkj]at i
 ·obtain⟨b,off,c,d,_⟩:=e.dp;simp [execOp,f,d]
 ·obtain⟨_,m,t,b,_,_,d⟩:=e.ptr;simp [execOp,f,d]
 ·obtain⟨_,m,t,b,_,_,d⟩:=e.vp;simp [execOp,f,d]
 ·obtain⟨_,b,_,d⟩:=e.mp;simp [execOp,f,d]
 ·obtain⟨n,d,_⟩:=e.fn;simp [execOp,f,d]
 ·obtain⟨_,_,a,d,_⟩:=e.np;simp [execOp,f,d]
theorem Zos{x:Operand}{i:Nat}(n:RH B H w g ow)(hF:Fr w g F a.tmps)(e:o.op=.extract x i)(h:(ZQ E nid o.op o.type (ZB F)).run H []=some ((v,patch),rd)):Zx B (Zr H patch) w g nid v ((execOp a.eval o).run P w):=by
 rw[e]at h;simp only[ZQ]at h;split at h
 ·rename_i l p;simp only[ZC,Zi,Va]at h;obtain⟨j,q,⟨rfl,rfl⟩,_⟩:=h;have f:=hF.eval x;rw[p]at f;obtain⟨vs,k,m⟩:=f
  have key:∀(l:Zq) (vs:List Value) (i:Nat),WM w g l vs->l.nth i=some j->∃u,vs[i]? =some u/\Kk w g j u:=by
   intro l
   induction l using Zq.rec (motive_1:=fun _=>True) with
   |nil=>intro vs i _ h;simp [Zq.nth]at h
   |cons b l _ y=>
    intro vs i s h;obtain⟨u,r,rfl,c,d⟩:=s
    cases i with
    |zero=>simp only[Zq.nth,Option.some.injEq]at h;subst h;exact⟨u,rfl,c⟩
    |succ i=>simp only[Zq.nth]at h;simpa using y r i d h
   |_=>trivial
  obtain⟨u,c,d⟩:=key l vs i m q;refine Zx.pure (val:=u) n ?_ (VR.of1 d);simp [execOp,e,k,Instr.extract,c]
 ·simp [Zb]at h
end ops
end Tr
end
section
namespace Tr
open Go
def ZV(H:AH)(ow:Nat->Nat->Prop)(ids:List Nat)(b:Nat):Prop:= ∃id∈ids,H id≠none/\ow id b
theorem RH.free{B:Kd}{H:AH}{w w' :World}{g:Gh}{ow:Nat->Nat->Prop}(h:RH B H w g ow){b:Nat}(x:∀id,H id≠none->¬ow id b)(u:¬g.I b)(s:B.own0 b\/B.w0.heap.size<=b)
 (d:∀k,k≠b->w'.heap[k]? =w.heap[k]?) (e:w'.heap.size=w.heap.size) (q:w'.os=w.os) (f:w'.tape=w.tape) (n:X2 w' w):RH B H w' g ow where
 objs:=fun k o r=>by obtain⟨i,j⟩:=h.objs k o r;exact⟨i,j.mono (fun c m=>by grind) (.refl g) i rfl (by grind)⟩
 dist:=h.dist
 sep:=fun k c i j=>by rw[e];exact h.sep k c i j
 ilt:=fun c m=>by rw[e];exact h.ilt c m
 inew:=h.inew
 os:=q.trans h.os
 tape:=f.trans h.tape
 output:=n.trans h.output
 size:=by rw[e];exact h.size
 kept:=fun c i j=>by
  have p:c≠b:=by
   grind
  rw[d c p];exact h.kept c i j
theorem Xc:∀(b c:KB) (H:AH),Zr H (b++c)=Zr (Zr H b) c
 |[],_,_=>rfl
 |p::b,c,H=>Xc b c (Kc H p.1 p.2)
theorem RH.drops{B:Kd}{w:World}{g:Gh}{ow:Nat->Nat->Prop} :∀(l:List Nat) {H:AH},RH B H w g ow->RH B (Zr H (l.map fun id=>(id,none))) w g ow
 |[],_,h=>h
 |id::l,H,h=>by simp only[Vga,Zr];exact RH.drops l (h.drop id)
theorem Dg:∀(l:List Nat) (H:AH) (k:Nat),Zr H (l.map fun id=>(id,none)) k=if k∈l then none else H k
 |[],H,k=>by rfl
 |id::l,H,k=>by
  simp only[Vga,Zr];rw[Dg l];by_cases c:k∈l
  ·grind
  ·by_cases b:k=id
   ·subst b;simp [c,XM]
   ·simp [c,b,Ky b]
theorem Zjy{a b:Ty}{x y:El (.prod a b)}{r:Bool}(h:eqEl (.prod a b) x y=some r):
 ∃p q,eqEl a x.1 y.1=some p/\eqEl b x.2 y.2=some q/\r=(p&&q):=by
 cases b with
 |unit=>
  simp only[eqEl]at h
  exact⟨r,true,h,rfl,by simp⟩
 |_=>
  simp only[eqEl,Vka]at h;obtain⟨p,c,q,d,e⟩:=h;exact⟨p,q,c,d,by grind⟩
theorem Zjz:∀(t:Ty) (x y:El t),eqEl t x y=some true->x=y:=by
 intro t
 induction t with
 |int k=>intro x y h;simpa [eqEl] using h
 |bool=>intro x y h;simpa [eqEl] using h
 |str=>intro x y h;simpa [eqEl] using h
 |unit=>simp
 |sl t _=>intro x y h;simp [eqEl]at h
 |ref=>simp
 |pt t _=>intro x y h;simp [eqEl]at h
 |lk a b _ _=>intro x y h;simp [eqEl]at h
 |pn t _=>intro x y h;simp [eqEl]at h
 |prod a b c d=>
  intro x y h;obtain⟨p,q,f,i,j⟩:=Zjy h
  grind
 |arr n t r=>
  intro x y h;simp only[eqEl]at h
  have key:∀(l m:List (El t)),eqEl.eqs (eqEl t) l m=some true->l=m:=by
   intro l
   induction l with
   |nil=>intro m h;cases m<;>simp [eqEl.eqs]at h;rfl
   |cons a l e=>
    intro m h
    cases m with
    |nil=>simp [eqEl.eqs]at h
    |cons b m=>
     simp only[eqEl.eqs,Vka,Option.some.injEq,Vb]at h
     grind
  grind
theorem Zqs:∀(t:Ty) (x:El t),t.key=true->eqEl t x x=some true:=by
 intro t
 induction t with
 |int k=>intro x _;simp [eqEl]
 |bool=>intro x _;simp [eqEl]
 |str=>intro x _;simp [eqEl]
 |unit=>intro x _;rfl
 |sl t _=>intro x h;simp [Ty.key]at h
 |ref=>intro x h;simp [Ty.key]at h
 |pt t _=>intro x h;simp [Ty.key]at h
 |lk a b _ _=>intro x h;simp [Ty.key]at h
 |pn t _=>intro x h;simp [Ty.key]at h
 |prod a b c d=>
  intro x h;simp only[Ty.key,Vb]at h;have i:=c x.1 h.1;have j:=d x.2 h.2
  cases b with
  |unit=>assumption
  |_=>
   show (eqEl a x.1 x.1).bind _=_
   grind
 |arr n t f=>
  intro x h;simp only[Ty.key]at h;simp only[eqEl]
  have key:∀l:List (El t),eqEl.eqs (eqEl t) l l=some true:=by
   intro l
   induction l with
   |nil=>rfl
   |cons a l e=>simp [eqEl.eqs,f a h,e]
  grind
theorem Jv{t:Ty}(c:t.key=true){x y:El t} :Zj t x y=true↔x=y:=by
 constructor
 ·intro h;unfold Zj at h
  cases b:eqEl t x y with
  |none=>grind
  |some r=>
   rw[b]at h;simp only[Option.getD_some]at h;subst h;exact Zjz t x y b
 ·rintro rfl;simp [Zj,Zqs t x c]
theorem Do{t:Ty}(h:t.keyOk=true):t.key=true:=by simp only[Ty.keyOk,Vb]at h;grind
def WR{α β:Type}(eq:α->α->Bool)(k:α):List (α×β)->Option Nat
 |[]=>none
 |e::l=>bif eq k e.1 then some 0 else(WR eq k l).map (· +1)
theorem G4{α β:Type}(eq:α->α->Bool)(k:α):∀(l:List (α×β)),ZI eq k l=(WR eq k l).bind fun j=>(l[j]?).map Prod.snd
 |[]=>rfl
 |e::l=>by
  simp only[ZI,WR]
  cases eq k e.1 with
  |true=>rfl
  |false=>
   simp only[Ze,G4 eq k l]
   cases WR eq k l<;>simp
theorem DX{α β:Type}(eq:α->α->Bool)(k:α)(v:β):∀(l:List (α×β)),ZZ eq k v l=match WR eq k l with|some j=>l.set j (k,v) |none=>l++[(k,v)]
 |[]=>rfl
 |e::l=>by
  simp only[ZZ,WR]
  cases eq k e.1 with
  |true=>rfl
  |false=>
   simp only[Ze,DX eq k v l]
   grind
theorem DW{α β:Type}(eq:α->α->Bool)(k:α):∀(l:List (α×β)) (j:Nat),WR eq k l=some j->∃e,l[j]? =some e/\eq k e.1=true
 |[],j,h=>by simp [WR]at h
 |e::l,j,h=>by
  simp only[WR]at h
  cases c:eq k e.1 with
  |true=>grind
  |false=>
   rw[c]at h;simp only[Ze,Option.map_eq_some_iff]at h;obtain⟨i,b,rfl⟩:=h;obtain⟨d,f,m⟩:=DW eq k l i b
   grind
theorem Zdk{t:Ty}{β:Type}(c:t.key=true){k:El t} :∀{l:List (El t×β)}{x:β},ZI (Zj t) k l=some x->(k,x)∈l
 |[],_,h=>by simp [ZI]at h
 |e::l,x,h=>by
  simp only[ZI]at h
  cases b:Zj t k e.1 with
  |true=>
   rw[b]at h;simp only[Zc,Option.some.injEq]at h;have:=(Jv c).1 b
   grind
  |false=>rw[b]at h;exact List.mem_cons_of_mem _ (Zdk c h)
theorem Zay{t:Ty}{β:Type}(c:t.key=true){k:El t} :∀{l:List (El t×β)},ZI (Zj t) k l=none->k ∉ l.map Vh
 |[],_=>by simp
 |e::l,h=>by
  simp only[ZI]at h
  cases b:Zj t k e.1 with
  |true=>grind
  |false=>
   rw[b]at h;simp only[Vga,Vna,not_or];exact⟨fun d=>by rw[(Jv c).2 d]at b;grind,Zay c h⟩
theorem DY{t:Ty}{β:Type}(b:t.key=true){k:El t}{v:β} :∀{l:List (El t×β)},(k∈l.map Vh->(ZZ (Zj t) k v l).map Vh=l.map Vh)/\(k ∉ l.map Vh->ZZ (Zj t) k v l=l++[(k,v)])
 |[]=>by simp [ZZ]
 |e::l=>by
  have h:=DY b (k:=k) (v:=v) (l:=l);simp only[ZZ]
  cases c:Zj t k e.1 with
  |true=>
   have:=(Jv b).1 c
   grind
  |false=>
   have f:k≠e.1:=fun d=>by rw[(Jv b).2 d]at c;grind
   grind
theorem Zfz{t:Ty}{β:Type}(b:t.key=true){k:El t}{v:β}{l:List (El t×β)}(c:(l.map Vh).Nodup):((ZZ (Zj t) k v l).map Vh).Nodup:=by
 by_cases h:k∈l.map Vh
 ·rw[(DY b).1 h];omega
 ·rw[(DY b).2 h,Vua,Vpa]
  grind
theorem Zed{t:Ty}{β:Type}(d:t.key=true){k c:El t}{v x:β} :∀{l:List (El t×β)},(l.map Vh).Nodup->(c,x)∈ZZ (Zj t) k v l->(c=k/\x=v)\/(c≠k/\(c,x)∈l)
 |[],_,h=>by simp [ZZ]at h;grind
 |e::l,f,h=>by
  simp only[Vga,Vwa]at f;simp only[ZZ]at h
  cases b:Zj t k e.1 with
  |true=>
   have j:=(Jv d).1 b
   grind
  |false=>
   rw[b]at h;simp only[Ze,Vna]at h;rcases h with h|h
   ·refine .inr ⟨fun i=>?_,by grind⟩;rw[<-h]at b;rw[(Jv d).2 i.symm]at b;grind
   ·exact(Zed d f.2 h).imp (fun h=>h) fun⟨m,n⟩=>by grind
theorem ZaO{α β:Type}{r:α->β->Prop} :∀{l:List α}{m:List β},l.length=m.length->(∀(n:Nat) a b,l[n]? =some a->m[n]? =some b->r a b)->Fa r l m
 |[],[],_,_=>trivial
 |a::l,b::m,h,c=>⟨c 0 a b rfl rfl,ZaO (by grind) fun n x y d e=>c (n+1) x y d e⟩
theorem Jj{n:Nat} :∀{l:List Nat},KX n l=true↔n∈l
 |[]=>by simp [KX]
 |k::l=>by simp only[KX,Vva,Nat.beq_eq,Vna,Jj]
theorem Zeg:∀{l:List Nat},HP l=true↔l.Nodup
 |[]=>by simp [HP]
 |n::l=>by simp only[HP,Vb,Vfa,Vwa,Zeg];rw[<-Jj,Vsa]
theorem D6:∀{l m:List Nat},J7 l m=true↔∀n∈l,n ∉ m
 |[],m=>by simp [J7]
 |n::l,m=>by simp only[J7,Vb,Vfa,List.forall_mem_cons,D6];rw[<-Jj,Vsa]
theorem Ht{b:Bool}{u:Unit}(h:ZD b=some u):b=true:=by
 cases b<;>simp [ZD]at h;rfl
theorem ZdK{α β:Type}{r:α->β->Prop} :∀{l:List α}{m:List β},Fa r l m->∀{n:Nat}{a:α}{b:β},l[n]? =some a->m[n]? =some b->r a b
 |[],[],_,n,a,b,h,_=>by grind
 |_::_,_::_,⟨p,_⟩,0,a,b,h,c=>by
  grind
 |_::_,_::_,⟨_,q⟩,n+1,a,b,h,c=>ZdK q (by assumption) (by grind)
theorem Ze3{P:Program}{θ:TypeId->Option Ty}{T:TypeId}{t:Ty}(h:W7 P θ T (.sl t))(w:World):(zeroValue T).run P w=.ok (.slice none 0 0) w:=by
 obtain⟨i,z,d,_,_,e,b,k⟩:=h.info
 have f:z.cells.toList=[.slice none 0 0]:=by
  unfold Gu at b
  cases c:(Ty.sl t).data with
  |true=>
   rw[c]at b;simp only[Zc]at b
   match j:z.cells.toList,b with
   |[.slice none 0 0],_=>rfl
  |false=>
   rw[c]at b;simp only[Ze]at b
   match j:z.cells.toList,b with
   |[.slice none 0 0],_=>rfl
 have:z=.slice none 0 0:=KU f (by assumption);subst this;simp only[zeroValue,typeInfo,Vg,run_program,Ve,d,Vi,e]
section
variable {B:Kd}{H:AH}{w:World}{g:Gh}{ow:Nat->Nat->Prop}
theorem D2{t b:Ty}{x:List (El t)}{y:El (.sl b)}(h:Kw (.sl t) (.sl b) x=some y):∃e:t=b,y=(e▸x:List (El b)):=by
 obtain⟨e,h⟩:=KR h
 grind
theorem Zep{t:Ty}{x:AV}{val:Value}{y:List (El t)}{ids l l' :List Nat}(u:RH B H w g ow)(p:VR w g x val)(h:(Xb t x).run H l=some ((y,ids),l')):
 (ids=[]/\y=[]/\val=.slice none 0 0)\/ ∃id,ids=[id]/\H id≠none/\((y=[]/\val=.slice none 0 0)\/ ∃b cap cs e css,ow id b/\val=.slice (some ⟨b,0,none⟩) y.length cap/\w.heap[b]? =some (.cells cs e (0,0))/\
   y.length<=cap/\cap*t.size<=cs.size/\Fa (Rd w g.I t) y css/\css.flatten<+:cs.toList):=by
 unfold Xb at h;split at h
 ·rename_i id;rw[Z1]at h;split at h
  ·rename_i J xs f;simp only[ZC,Zi,Va]at h;obtain⟨K,q,⟨rfl,rfl⟩,_⟩:=h;obtain⟨i,rfl⟩:=KR q;cases i;obtain⟨_,d⟩:=p.vw;obtain⟨_,_,s⟩:=u.objs id _ f
   grind
  ·simp [Zb]at h
 ·rename_i id n;rw[Z1]at h;split at h
  ·rename_i J xs f;simp only[ZC,Zi,Va]at h;obtain⟨K,q,⟨rfl,rfl⟩,_⟩:=h;obtain⟨i,rfl⟩:=KR q;cases i;obtain⟨_,d⟩:=p.vs;obtain⟨_,k,s⟩:=u.objs id _ f;rw[k]at d;refine .inr ⟨id,rfl,by grind,?_⟩;rcases d with ⟨A,_,rfl,d⟩|⟨b,len,cap,m,A,M,N,O,d⟩
   ·grind
   ·rcases s with ⟨_,_,c⟩|⟨L,r,cs,e,css,_,G,c,D,Q,R,j,C⟩
    ·grind
    ·rw[A]at c;simp only[Vta.injEq,Option.some.injEq,Addr.mk.injEq,and_true]at c;obtain⟨rfl,rfl,rfl⟩:=c;have z:(xs.take n).length=n:=by grind
     refine .inr ⟨b,m,cs,e,css.take n,G,?_,D,?_,?_,j.take n,?_⟩
     ·grind
     ·grind
     ·have:m*t.size<=cap*t.size:=Nat.mul_le_mul_right _ (by omega);omega
     ·refine List.IsPrefix.trans ⟨(css.drop n).flatten,?_⟩ C;rw[<-List.flatten_append,Vz]
  ·simp [Zb]at h
 ·simp only[Zi,Va]at h;obtain⟨⟨rfl,rfl⟩,_⟩:=h;exact .inl ⟨rfl,rfl,p.nils⟩
 ·simp [Zb]at h
theorem Zcx{t:Ty}{x:AV}{val:Value}{y:List (El t)}{ids l l' :List Nat}(p:RH B H w g ow)(r:VR w g x val)(h:(Xb t x).run H l=some ((y,ids),l')):WH w g.I (ZV H ow ids) t y val:=by
 rcases Zep p r h with ⟨_,c,d⟩|⟨id,rfl,i,⟨c,d⟩|⟨b,cap,cs,e,f,q,c,d,j,k,m,n⟩⟩
 ·exact .inl ⟨c,d⟩
 ·exact .inl ⟨c,d⟩
 ·exact .inr ⟨b,cap,cs,e,f,c,⟨id,by simp,i,q⟩,d,j,k,m,n⟩
theorem WH.own{I J:Nat->Prop}{t:Ty}{xs:List (El t)}{d:Value}(h:WH w I J t xs d){b:Nat}(c:Wo d=some b):J b:=by
 rcases h with ⟨_,rfl⟩|⟨e,_,_,_,_,rfl,f,_⟩
 ·simp [Wo]at c
 ·simp only[Wo,Option.some.injEq]at c;grind
theorem WH.one{I J:Nat->Prop}{t:Ty}{xs:List (El t)}{b:Value}(h:WH w I J t xs b):b.oneCell' =true/\Ka b=false:=by
 rcases h with ⟨_,rfl⟩|⟨c,_,_,_,_,rfl,d,_⟩<;>exact⟨rfl,rfl⟩
theorem RF.put{κ:Type}{w' :World}{I J u:Nat->Prop}{t:Ty}{top:Option Nat}{row e:κ->Value}{c c' :κ->List (El t)->Prop}{hole:Option κ}(h:RF w I J t top row c hole){k0:κ}{x0:List (El t)}
 (d:∀k,k≠k0->e k=row k) (r:∀k x,c' k x->(k=k0/\x=x0)\/(k≠k0/\c k x)) (K:hole=none\/hole=some k0) (L:WH w' I u t x0 (e k0))
 (q:∀k x,c k x->k≠k0->WH w I J t x (row k)->WH w' I u t x (row k)) (G:∀b,Wo (e k0)=some b->(∀k x,c k x->k≠k0->Wo (row k)≠some b)/\top≠some b):RF w' I u t top e c' none:=by
 have i:∀k,k≠k0->hole≠some k:=by grind
 refine⟨fun k x p _=>?_,fun k s x C b p y z _ _ m n=>?_,fun k x b p _ m=>?_⟩
 ·rcases r k x p with ⟨rfl,rfl⟩|⟨f,j⟩
  ·omega
  ·rw[d k f];exact q k x j f (h.rd k x j (i k f))
 ·rcases r k x p with ⟨rfl,rfl⟩|⟨f,j⟩
  ·grind
  ·rw[d k f]at m;rcases r s C y with ⟨rfl,rfl⟩|⟨A,D⟩
   ·grind
   ·rw[d s A]at n;exact h.ds k s x C b j D z (i k f) (i s A) m n
 ·rcases r k x p with ⟨rfl,rfl⟩|⟨f,j⟩
  ·grind
  ·rw[d k f]at m;exact h.tp k x b j (i k f) m
theorem RF.take{κ:Type}{w' :World}{I J n:Nat->Prop}{t:Ty}{top:Option Nat}{row:κ->Value}{c:κ->List (El t)->Prop}(h:RF w I J t top row c none)(k0:κ)
 (e:∀k x,c k x->k≠k0->WH w I J t x (row k)->WH w' I n t x (row k)):RF w' I n t top row c (some k0):=by
 have m:∀k,some k0≠some k->k≠k0:=by grind
 exact⟨fun k x d p=>e k x d (m k p) (h.rd k x d (by simp)),fun k q x r b d i j _ _ f=>h.ds k q x r b d i j (by simp) (by simp) f,fun k x b d _ f=>h.tp k x b d (by simp) f⟩
def RL(w:World)(I J:Nat->Prop)(t:Ty)(b:List Value)(xs:List (List (El t))):Prop:=
 b.length=xs.length/\RF w I J t none (fun i:Nat=>b.getD i undef) (fun i x=>xs[i]? =some x) none
theorem RL.nil{I J:Nat->Prop}{t:Ty} :RL w I J t [] []:=⟨rfl,⟨by simp,by simp,by simp⟩⟩
theorem RL.row{I J:Nat->Prop}{t:Ty}{b:List Value}{xs:List (List (El t))}(h:RL w I J t b xs){i:Nat}{x:List (El t)}(c:xs[i]? =some x):WH w I J t x (b.getD i undef):=h.2.rd i x c (by simp)
theorem RL.mono{w' :World}{I d J e:Nat->Prop}{t:Ty}{c:List Value}{xs:List (List (El t))}(m:Kj I w w')(f:∀b,I b->d b)(n:∀b,J b->e b)(p:∀i x b,xs[i]? =some x->Wo (c.getD i undef)=some b->w'.heap[b]? =w.heap[b]?)(h:RL w I J t c xs):RL w' d e t c xs:=
 ⟨h.1,⟨fun k x j _=>(h.row j).mono m f (by grind) (by grind),h.2.ds,h.2.tp⟩⟩
theorem RL.single{I J:Nat->Prop}{t:Ty}{v:Value}{x:List (El t)}(h:WH w I J t x v):RL w I J t [v] [x]:=by
 refine⟨rfl,⟨by grind,by grind,by simp⟩⟩
 all_goals grind
theorem RL.append{I z A:Nat->Prop}{t:Ty}{k m:List Value}{xs u:List (List (El t))}(a:RL w I z t k xs)(b:RL w I A t m u)(D:∀c,z c->¬A c):RL w I (fun c=>z c\/A c) t (k++m) (xs++u):=by
 have key:∀i x,(xs++u)[i]? =some x->(i<xs.length/\xs[i]? =some x/\(k++m).getD i undef=k.getD i undef)\/(xs.length<=i/\u[i - xs.length]? =some x/\(k++m).getD i undef=m.getD (i - xs.length) undef):=by
  intro i x h;rcases Nat.lt_or_ge i xs.length with s|s
  ·rw[Vha s]at h;exact .inl ⟨s,h,by simp only[Vca];rw[Vha (by rw[a.1];omega)]⟩
  ·rw[Vq s]at h;exact .inr ⟨s,h,by simp only[Vca];rw[Vq (by rw[a.1];omega),a.1]⟩
 refine⟨by simp [a.1,b.1],⟨fun i x h _=>?_,fun i j x y c h J C _ _ f d=>?_,by simp⟩⟩
 ·rcases key i x h with ⟨_,n,e⟩|⟨_,n,e⟩
  ·rw[e];exact(a.row n).mono (fun _ _=>rfl) (by simp) (by grind) (by simp)
  ·rw[e];exact(b.row n).mono (fun _ _=>rfl) (by simp) (by grind) (by simp)
 ·rcases key i x h with ⟨n,e,p⟩|⟨n,e,p⟩<;>rcases key j y J with ⟨G,q,r⟩|⟨G,q,r⟩
  ·rw[p]at f;rw[r]at d;exact a.2.ds i j x y c e q C (by simp) (by simp) f d
  ·rw[p]at f;rw[r]at d;exact D c ((a.row e).own f) ((b.row q).own d)
  ·rw[p]at f;rw[r]at d;exact D c ((a.row q).own d) ((b.row e).own f)
  ·rw[p]at f;rw[r]at d;exact b.2.ds _ _ x y c e q (by omega) (by simp) (by simp) f d
def XE(w:World)(I J:Nat->Prop)(t:Ty)(xs:List (List (El t)))(v:Value):Prop:=
 ∃c,RL w I J t c xs/\((xs=[]/\v=.slice none 0 0)\/ ∃b cap cs e,J b/\(∀i x,xs[i]? =some x->Wo (c.getD i undef)≠some b)/\v=.slice (some ⟨b,0,none⟩) xs.length cap/\w.heap[b]? =some (.cells cs e (0,0))/\
  xs.length<=cap/\cap<=cs.size/\ ∀i,i<xs.length->cs[i]? =some (c.getD i undef))
def YU(w:World)(I J:Nat->Prop)(c t:Ty)(m:List (El c×List (El t)))(v:Value):Prop:=
 ∃(row:El c->Value) (b:Nat) (es:Array MapEntry) (clock:Nat),v=.map (some b)/\J b/\w.heap[b]? =some (.map es clock)/\Ix es clock/\RF w I J t (some b) row (fun k x=>(k,x)∈m) none/\(m.map Vh).Nodup/\
  (∀k,k ∉ m.map Vh->row k=.slice none 0 0)/\Fa (fun kv e=>(Rd w I c kv.1 e.key.cells.toList/\Ka e.key=c.agg)/\e.val=row kv.1) m es.toList
theorem XE.mono{w' :World}{I c J d:Nat->Prop}{t:Ty}{xs:List (List (El t))}{v:Value}(p:Kj I w w')(f:∀b,I b->c b)(j:∀b,J b->d b)(k:∀b,J b->w'.heap[b]? =w.heap[b]?)(h:XE w I J t xs v):XE w' c d t xs v:=by
 obtain⟨m,e,r⟩:=h;refine⟨m,e.mono p f j fun i x b q n=>k b ((e.row q).own n),?_⟩
 grind
theorem YU.mono{w' :World}{I i J j:Nat->Prop}{c t:Ty}{m:List (El c×List (El t))}{v:Value}(p:Kj I w w')(k:∀b,I b->i b)(n:∀b,J b->j b)(z:∀b,J b->w'.heap[b]? =w.heap[b]?)(h:YU w I J c t m v):YU w' i j c t m v:=by obtain⟨row,b,es,clock,q,r,A,d,s,u,x,y⟩:=h;exact⟨row,b,es,clock,q,n b r,by grind,d,s.mono p k n z,u,x,y.mono fun kv e f=>⟨⟨Rd.mono p k c _ _ f.1.1,f.1.2⟩,f.2⟩⟩
theorem XE.of_obj{J:Nat->Prop}{id u:Nat}{t:Ty}{xs:List (List (El t))}(h:WF w g J id (.rows t xs u none)):XE w g.I J t xs (g.slv id):=by
 obtain⟨_,_,d,A⟩:=h;have k:∀i x,xs[i]? =some x->((Vr xs.length).map fun i:Nat=>g.row id (.int .i64) (i:Int)).getD i undef=g.row id (.int .i64) (i:Int):=by grind
 refine⟨(Vr xs.length).map fun i:Nat=>g.row id (.int .i64) (i:Int),⟨by simp,⟨fun i x c _=>?_,fun i j x y b c n m _ _ f=>?_,by simp⟩⟩,?_⟩
 ·rw[k i x c];exact d.rd i x c (by simp)
 ·rw[k i x c]at f;rw[k j y n];exact d.ds i j x y b c n m (by simp) (by simp) f
 ·rcases A with ⟨D,_,G⟩|⟨b,cap,cs,e,f,p,q,r,s,z,K⟩
  ·grind
  ·refine .inr ⟨b,cap,cs,e,p,fun i x c=>?_,q,r,s,z,fun i L=>?_⟩
   ·rw[k i x c];intro C;exact d.tp i x b c (by simp) C f
   grind
theorem YU.of_obj{J:Nat->Prop}{id u:Nat}{d t:Ty}{m:List (El d×List (El t))}(h:WF w g J id (.mrows d t m u none)):∃b,g.blk id=some b/\YU w g.I J d t m (.map (some b)):=by
 obtain⟨_,_,r,i,c,b,es,clock,q,k,n,f,p⟩:=h;refine⟨b,q,g.row id d,b,es,clock,rfl,k,n,f,?_,i,c,p.mono fun kv e j=>⟨⟨by simpa only[CV] using j.1.1,by simpa [AV.isAgg] using j.1.2⟩,j.2⟩⟩
 grind
def Rq(c:List Value):(b:Ty)->El b->Value:=fun b k=>if h:b=.int .i64 then c.getD ((h▸k:El (.int .i64)):Int).toNat undef else .slice none 0 0
theorem Zah(b:List Value)(i:Nat):Rq b (.int .i64) (i:Int)=b.getD i undef:=by rfl
def rowK{c:Ty}(row:El c->Value):(b:Ty)->El b->Value:=fun b k=>if h:b=c then row (h▸k) else .slice none 0 0
theorem Zl8{b:Ty}(row:El b->Value)(k:El b):rowK row b k=row k:=by simp [rowK]
theorem XE.obj{J:Nat->Prop}{t:Ty}{xs:List (List (El t))}{v:Value}(h:XE w g.I J t xs v)(id:Nat):∃b r,WF w (g.add id (.sl t) b v r) J id (.rows t xs 0 none):=by
 obtain⟨m,⟨Q,f⟩,u⟩:=h;have d:∀b,(g.add id (.sl t) b v (Rq m)).row id=Rq m:=fun b=>by simp [Gh.add]
 rcases u with ⟨rfl,rfl⟩|⟨b,cap,cs,e,z,M,A,C,D,G,N⟩
 ·refine⟨none,Rq m,by simp [Gh.add],by simp [Gh.add],?_,.inl ⟨rfl,by simp [Gh.add],by simp [Gh.add]⟩⟩;exact⟨by simp,by simp,by simp⟩
 ·refine⟨some b,Rq m,by simp [Gh.add],by simp [Gh.add],?_,.inr ⟨b,cap,cs,e,by simp [Gh.add],z,by simp [Gh.add,A],C,D,G,fun i O=>?_⟩⟩
  ·rw[d];refine⟨fun i x n K=>?_,fun i j x y c n L s p q k=>?_,fun i x c n _ k=>?_⟩
   ·rw[Zah];exact f.rd i x n K
   ·rw[Zah]at k⊢;exact f.ds i j x y c n L s p q k
   ·rw[Zah]at k;simp only[Gh.add,if_true]
    grind
  ·rw[d,Zah];grind
theorem YU.obj{J:Nat->Prop}{d t:Ty}{m:List (El d×List (El t))}{b:Nat}(h:YU w g.I J d t m (.map (some b)))(id:Nat):∃r,WF w (g.add id (.sl t) (some b) undef r) J id (.mrows d t m 0 none):=by
 obtain⟨row,x,es,clock,j,n,p,f,q,s,y,u⟩:=h;cases j;have c:(g.add id (.sl t) (some b) undef (rowK row)).row id d=row:=by funext k;simp [Gh.add,Zl8]
 refine⟨rowK row,by simp [Gh.add],by simp [Gh.add],?_,s,?_,b,es,clock,by simp [Gh.add],n,p,f,?_⟩
 ·rw[c];simpa [Gh.add] using q
 ·grind
 ·rw[c];exact u.mono fun kv e i=>⟨⟨by simp only[CV];exact i.1.1,.inr (by simpa [AV.isAgg] using i.1.2)⟩,i.2⟩
theorem Zg1{t:Ty}{x:AV}{val:Value}{y:List (List (El t))}{ids l l' :List Nat}(e:RH B H w g ow)(c:VR w g x val)(h:(Gc t x).run H l=some ((y,ids),l')):XE w g.I (ZV H ow ids) t y val/\(ids=[]\/ ∃id,ids=[id]/\H id≠none):=by
 unfold Gc at h;split at h
 ·rename_i id;rw[Z1]at h;split at h
  ·rename_i m xs u d;simp only[ZC,Zi,Va]at h;obtain⟨n,k,⟨rfl,rfl⟩,_⟩:=h;obtain⟨i,rfl⟩:=KR k;cases i;obtain⟨_,j⟩:=c.vw;rw[j];exact⟨(XE.of_obj (e.objs id _ d).2).mono (fun _ _=>rfl) (by simp) (fun b f=>⟨id,by simp,by grind,f⟩) (by simp),by grind⟩
  ·simp [Zb]at h
 ·simp only[Zi,Va]at h;obtain⟨⟨rfl,rfl⟩,_⟩:=h;exact⟨⟨[],RL.nil,.inl ⟨rfl,c.nils⟩⟩,.inl rfl⟩
 ·simp [Zb]at h
def Gh.bump(g:Gh)(id v:Nat)(r:(b:Ty)->El b->Value):Gh:=
 {g with ver:=fun k=>if k=id then v else g.ver k,row:=fun k=>if k=id then r else g.row k}
theorem Gh.le_bump{g:Gh}{id v:Nat}{r:(b:Ty)->El b->Value}(h:g.ver id<v):g.Le (g.bump id v r) where
 I:=fun _ h=>h
 K:=fun _ h=>h
 ty:=fun _ _=>rfl
 blk:=fun _ _=>rfl
 slv:=fun _ _=>rfl
 ver:=fun k _=>by
  show g.ver k<=if k=id then v else g.ver k
  grind
 row:=fun k _ e=>by
  have e:(if k=id then v else g.ver k)=g.ver k:=e
  show (if k=id then r else g.row k)=g.row k
  grind
theorem RH.bump{w' :World}(h:RH B H w g ow){id v:Nat}{r:(O:Ty)->El O->Value}{C:K0}{J:Nat->Prop}(G:g.K id)(N:g.ver id<v)
 (x:∀b,g.I b\/(∃k,k≠id/\H k≠none/\ow k b)->w'.heap[b]? =w.heap[b]?) (M:w.heap.size<=w'.heap.size) (y:w'.os=w.os) (j:w'.tape=w.tape) (m:X2 w' w)
 (i:∀b,b<B.w0.heap.size->¬B.own0 b->w'.heap[b]? =w.heap[b]?)
 (D:∀b,J b->¬g.I b/\b<w'.heap.size/\(B.own0 b\/B.w0.heap.size<=b)/\ ∀k,k≠id->H k≠none->¬ow k b) (L:WF w' (g.bump id v r) J id C):RH B (Kc H id (some C)) w' (g.bump id v r) (Xm ow id J) where
 objs:=fun k o u=>by
  by_cases c:k=id
  ·subst c;rw[XM]at u;cases u;rw[JS];exact⟨G,L⟩
  ·rw[Ky c]at u;rw[WV c];obtain⟨f,e⟩:=h.objs k o u;exact⟨f,e.mono (fun b z=>by grind) (Gh.le_bump N) f (Zf c) (by grind)⟩
 dist:=fun k A b f e n s=>by
  by_cases c:k=id<;>by_cases d:A=id
  ·omega
  ·subst c;rw[Ky d]at e;rw[JS]at n;rw[WV d]at s
   grind
  ·subst d;rw[Ky c]at f;rw[JS]at s;rw[WV c]at n
   grind
  ·rw[Ky c]at f;rw[Ky d]at e;rw[WV c]at n;rw[WV d]at s;exact h.dist k A b f e n s
 sep:=fun k b f e=>by
  by_cases c:k=id
  ·subst c;rw[JS]at e;obtain⟨p,q,r,_⟩:=D b e;exact⟨p,q,r⟩
  ·rw[Ky c]at f;rw[WV c]at e;obtain⟨p,q,r⟩:=h.sep k b f e;exact⟨p,by omega,r⟩
 ilt:=fun b z=>by have:=h.ilt b z;omega
 inew:=h.inew
 os:=y.trans h.os
 tape:=j.trans h.tape
 output:=m.trans h.output
 size:=by have:=h.size;omega
 kept:=fun b f e=>(i b f e).trans (h.kept b f e)
theorem Zmd{I J:Nat->Prop}{t:Ty}{xs:List (El t)}{k:Value}(h:WH w I J t xs k){i:Nat}{x:El t}(u:xs[i]? =some x):
 ∃b cap cs e css c,k=.slice (some ⟨b,0,none⟩) xs.length cap/\J b/\w.heap[b]? =some (.cells cs e (0,0))/\xs.length<=cap/\cap*t.size<=cs.size/\
  Fa (Rd w I t) xs css/\css[i]? =some c/\Rd w I t x c/\ ∃r,cs.toList=(css.take i).flatten++c++((css.drop (i+1)).flatten++r)/\(css.take i).flatten.length=i*t.size/\
   ∀c',(css.set i c').flatten++r=(css.take i).flatten++c' ++((css.drop (i+1)).flatten++r):=by
 rcases h with ⟨rfl,_⟩|⟨b,cap,cs,e,css,n,m,p,q,s,d,r,z⟩
 ·grind
 ·obtain⟨c,j,f⟩:=d.get i x u;obtain⟨A,y,C⟩:=D9 j t.size (Rd.all_length d);exact⟨b,cap,cs,e,css,c,n,m,p,q,s,d,j,f,r,by grind,y,by grind⟩
theorem Zdf(z:RH B H w g ow){id ver:Nat}{p:Ty}{k:El p}(_hK:g.K id){r:(t:Ty) ×List (El t)}{l l' :List Nat}(h:(YB id ver p k).run H l=some (r,l')):
 H id≠none/\g.ty id=.sl r.1/\g.ver id=ver/\WH w g.I (ow id) r.1 r.2 (g.row id p k):=by
 simp only[YB]at h;rw[Z1]at h;split at h
 ·rename_i t xs u n;simp only[ZL,ZC,Zi,Zb,ZR,Z3]at h;obtain⟨d,i,C,x,s,rfl,_⟩:=h;have d:=Vn d;obtain⟨rfl,rfl⟩:=KR C;obtain⟨_,j,b,c,_⟩:=z.objs id _ n;unfold idx at s;split at s
  ·rename_i G;have J:=c.rd i.toNat x s (by simp)
   grind
  grind
 ·rename_i D t m u n;simp only[ZL,ZC,Zi,Zb,ZR,Z3,Vb]at h;obtain⟨⟨d,f⟩,y,q,rfl,_⟩:=h;have d:=Vn d;obtain⟨rfl,rfl⟩:=KR q;obtain⟨_,j,b,c,_,e,_⟩:=z.objs id _ n;rw[n];refine⟨by simp,j,b.trans d,?_⟩;simp only
  cases A:ZI (Zj p) y m with
  |none=>exact .inl ⟨rfl,e y (Zay (Do f) A)⟩
  |some x=>exact c.rd y x (Zdk (Do f) A) (by simp)
 ·simp [Zb]at h
theorem Zaw(e:RH B H w g ow){id ver:Nat}{b:Ty}{k:El b}{v:Value}(f:VR w g (.nw id ver b k) v){r:(t:Ty) ×List (El t)}{l l' :List Nat}(h:(YB id ver b k).run H l=some (r,l')):
 H id≠none/\g.ty id=.sl r.1/\g.ver id=ver/\v=g.row id b k/\WH w g.I (ow id) r.1 r.2 v:=by
 obtain⟨d,_,_,c⟩:=f.nw;obtain⟨i,j,m,n⟩:=Zdf e d h
 grind
end
end Tr
end
section
namespace Tr
open Go
theorem ZaU{a:AV}{t:Ty}(h:a.fits t=true):a≠ .junk/\ ∀l,a≠ .tup l:=by
 constructor
 ·rintro rfl;simp [AV.fits]at h
 ·rintro l rfl;simp [AV.fits]at h
theorem ZdO{a:AV}{t:Ty}(h:a.fits t=true)(b:a.solid=true):a.isAgg=t.agg:=by
 rcases ZqI h with h|⟨n,rfl⟩
 ·exact h
 ·simp [AV.solid]at b
section ops
variable {P:Program}{E:Km}{B:Kd}{H:AH}{w:World}{g:Gh}{ow:Nat->Nat->Prop}{nid:Nat}{a:Act}{F:Nat->AV}{v:AV}{patch:KB}{rd:List Nat}{o:Oper}
theorem Zid{id:Nat}{t:Ty}{b:Nat}{sv:Value} :VR w (g.add id t (some b) sv) (.ptr id []) (.pointer (some ⟨b,0,none⟩)):=by refine K8 ?_ rfl rfl;simp only[CV];exact⟨.inl rfl,0,t,b,by simp [Gh.add,WE],by simp [Gh.add],rfl⟩
theorem G3(w:World)(o:Obj):(w.alloc o).heap[w.heap.size]? =some o:=by show (w.heap.push o)[w.heap.size]? =_;simp
theorem RN{w:World}{o:Obj}{k:Nat}(h:k<w.heap.size):(w.alloc o).heap[k]? =w.heap[k]? :=by
 show (w.heap.push o)[k]? =_
 grind
theorem Ziu(d:RH B H w g ow)(c:¬g.K nid){t:Ty}{sv:Value}{b:Option Nat}{ob:Obj}{x:AV}{cs:List Value}(h:CV w g x cs):CV (w.alloc ob) (g.add nid t b sv) x cs:=
 CV.mono (fun _ e=>RN (d.ilt _ e)) (Gh.le_add c _ _ _) x cs h
theorem Zn0(c:RH B H w g ow)(d:∀id,g.K id->id<nid\/nid+Ws<=id){t:Ty}{sv:Value}{b:Option Nat}{ob:Obj}{x:AV}{cs:List Value}(h:CV w g x cs):CV (w.alloc ob) (g.add nid t b sv) x cs:=Ziu c (Hb d) h
theorem Zk4(b:RH B H w g ow)(f:∀id,g.K id->id<nid\/nid+Ws<=id){t:Ty}{T:TypeId}{c:AV}{cells:Array Value}(e:c.fits t=true)(d:CV w g c cells.toList){r:Result Next}
 (h:r=.ok (.value (.pointer (some ⟨w.heap.size,0,none⟩))) (w.alloc (.cells cells T))):Zx B (Kc H nid (some (.var t c))) w g nid (.ptr nid []) r:=by
 refine Zx.new (t:=t) (sv:=undef) b f h ?_ Zid;refine⟨by simp [Gh.add],e,w.heap.size,cells,T,by simp [Gh.add],rfl,G3 _ _,?_,Zn0 b f d⟩;have:=CV.length c t _ e d;omega
theorem Zoh{T:TypeId}(j:Z9 P E)(i:RH B H w g ow)(c:∀id,g.K id->id<nid\/nid+Ws<=id)(d:o.op=.alloc T)(h:(ZQ E nid o.op o.type (ZB F)).run H []=some ((v,patch),rd)):
 Zx B (Zr H patch) w g nid v ((execOp a.eval o).run P w):=by
 rw[d]at h;simp only[ZQ]at h;split at h
 ·rename_i e m;simp only[Zi,Va]at h;obtain⟨⟨rfl,rfl⟩,_⟩:=h;obtain⟨z,f,b⟩:=j.bd T e m;refine Zx.new (t:=.unit) (sv:=undef) (val:=.pointer (some ⟨w.heap.size,0,none⟩)) (o:=.cells z.cells T) i c ?_ ?_ Zid
  ·simp only[execOp,d,Vbb,Vg,f,Ve,newVar,newRow,run_newObj,Vi];rfl
  ·refine⟨w.heap.size,by simp [Gh.add],rfl,.pointer none,.slice none 0 0,.inl rfl,?_,⟨by rfl,by simp⟩,fun k c=>by simp [Value.ownBlock]at c,fun _=>rfl⟩;rw[G3,b]
 simp only[ZC,Zi,Va]at h;obtain⟨t,n,⟨rfl,rfl⟩,_⟩:=h;obtain⟨z,f,b⟩:=(j.ty T t n).run_zerox (E.zx T) w;refine Zk4 i c (T:=T) (cells:=z.cells) (b w g).2 (b w g).1.1 ?_;simp only[execOp,d,Vbb,Vg,f,Ve,newVar,newRow,run_newObj,Vi];rfl
theorem Zok{T:TypeId}{x:Operand}(d:RH B H w g ow)(hF:Fr w g F a.tmps)(e:∀id,g.K id->id<nid\/nid+Ws<=id)(c:o.op=.box T x)
 (h:(ZQ E nid o.op o.type (ZB F)).run H []=some ((v,patch),rd)):Zx B (Zr H patch) w g nid v ((execOp a.eval o).run P w):=by
 rw[c]at h;simp only[ZQ,ZC,ZL,Zi,Zb,ZR,Z3,Va]at h;obtain⟨t,i,b,⟨rfl,rfl⟩,_⟩:=h;have f:=(hF.eval x).to1 (ZaU b).2;refine Zk4 d e (T:=T) (cells:=(a.eval x).cells) b f.1 ?_;simp only[execOp,c,Instr.box,Vg,Ve,newVar,newRow,run_newObj,Vi];rfl
theorem Zm7{t:Ty}{xs:List (El t)}{id:Nat}{J:Nat->Prop}(h:WF w g J id (.vec t xs)){i:Nat}{x:El t}(k:xs[i]? =some x):
 ∃b cap cs e css c,g.ty id=t/\g.blk id=some b/\J b/\g.slv id=.slice (some ⟨b,0,none⟩) xs.length cap/\w.heap[b]? =some (.cells cs e (0,0))/\xs.length<=cap/\cap*t.size<=cs.size/\
  Fa (Rd w g.I t) xs css/\css[i]? =some c/\Rd w g.I t x c/\ ∃r,cs.toList=(css.take i).flatten++c++((css.drop (i+1)).flatten++r)/\(css.take i).flatten.length=i*t.size/\
   ∀c',(css.set i c').flatten++r=(css.take i).flatten++c' ++((css.drop (i+1)).flatten++r):=by
 obtain⟨j,h⟩:=h;rcases h with ⟨rfl,_⟩|⟨b,cap,cs,e,css,n,p,q,s,u,y,d,r,z⟩
 ·grind
 ·obtain⟨c,f,m⟩:=d.get i x k;obtain⟨A,C,D⟩:=D9 f t.size (Rd.all_length d)
  grind
theorem ZiG{T:TypeId}{x:Operand}(hT:Z9 P E)(R:RH B H w g ow)(hF:Fr w g F a.tmps)(ho:o.op=.load T x)
 (h:(ZQ E nid o.op o.type (ZB F)).run H []=some ((v,patch),rd)):Zx B (Zr H patch) w g nid v ((execOp a.eval o).run P w):=by
 rw[ho]at h;simp only[ZQ,ZC]at h;obtain⟨t,ht,h⟩:=h;have hx:=hF.eval x
 have fin:∀{b off:Nat}{c:List Value},a.eval x=.pointer (some ⟨b,off,none⟩)->YQ w b off c->CV w g v c->v.fits t=true->v.solid=true->patch=[]->Zx B (Zr H patch) w g nid v ((execOp a.eval o).run P w):=by intro b off c he hc W X hs hp;subst hp;obtain⟨q,h2⟩:=ZbH W X (ZdO X hs);refine Zx.pure R ?_ (VR.of1 q);simp only[execOp,ho,he,Instr.loadAt,Vx,Vg,Vi,Ve,Zml (hT.ty T t ht) hc (CV.length v t c X W) h2]
 split at h
 ·rename_i t' y G;simp only[ZL,Zi,Zb,ZR,Z3,Ks,Va]at h;obtain⟨rfl,⟨rfl,rfl⟩,_⟩:=h;obtain⟨b,off,c,q,h2,f,C⟩:=(G▸hx).dp;exact fin q f.at (by assumption) (by simp [AV.fits]) rfl rfl
 ·rename_i id p G;rw[Z1]at h;split at h
  ·rename_i t0 c Q;simp only[Z4,ZL,Zi,Zb,ZR,Z3,Va,Vb]at h;obtain⟨v',m,q,⟨h2,a3⟩,⟨rfl,rfl⟩,_⟩:=h;obtain⟨Z,o',t1,b,f,C,L⟩:=(G▸hx).ptr;obtain⟨_,d,X,b',cs,e,M,h7,h8,h9,a2⟩:=R.objs id _ Q;obtain⟨_,t2,O,⟨o2,pre,post,s,I,J⟩,a9,K⟩:=Zgk q X a2;rw[d,s]at f;obtain⟨rfl,rfl⟩:=Vf (Option.some.inj f);rw[C]at M;cases M;refine fin L ?_ K h2 a3 rfl;rw[<-J];exact YQ.of_heap h8 I
  ·simp [Zb]at h
 ·rename_i id i p G;rw[Z1]at h;split at h
  ·rename_i t0 xs Q;simp only[ZC,Z4,ZL,Zi,Zb,ZR,Z3,Ks,Va]at h;obtain⟨x',A,y,m,q,rfl,⟨rfl,rfl⟩,_⟩:=h;obtain⟨Z,o',t1,b,f,C,L⟩:=(G▸hx).vp;obtain⟨_,hO⟩:=R.objs id _ Q;obtain⟨b',cap,cs,e,n,c,d,U,hJ,a7,Y,hl,D,a5,a4,N,r,V,a0,_⟩:=Zm7 hO A;obtain⟨_,O,⟨o2,pre,post,s,I,J⟩,K⟩:=ZdV p t0 x' _ _ y c q N;rw[d,s]at f;obtain⟨rfl,rfl⟩:=Vf (Option.some.inj f);rw[C]at U;cases U;refine fin L (c:=O) ?_ (by assumption) (by simp [AV.fits]) rfl rfl;have:cs.toList=((n.take i).flatten++pre)++O++(post++((n.drop (i+1)).flatten++r)):=by grind
   have:=YQ.of_heap Y this
   grind
  ·rename_i t0 xs u Q;simp only[ZC,ZL,Zi,Zb,ZR,Z3,Ks,Va,Vb,Vp]at h;obtain⟨⟨rfl,rfl⟩,x',A,⟨rfl,rfl⟩,_⟩:=h;obtain⟨Z,o',t1,b,f,C,L⟩:=(G▸hx).vp;rw[WE]at f;obtain⟨rfl,rfl⟩:=Vf (Option.some.inj f);obtain⟨_,d,z,a6,hO⟩:=R.objs id _ Q;rcases hO with ⟨rfl,_⟩|⟨b',cap,cs,e,U,hJ,a7,Y,hl,D,V⟩
   ·grind
   ·rw[C]at U;cases U;have hi:i<xs.length:=by grind
    have q:=a6.rd i x' A (by simp);refine fin L (c:=[g.row id (.int .i64) (i:Int)]) ?_ ?_ rfl rfl rfl
    ·rw[d];intro j v hj
     cases j with
     |zero=>
      simp only[List.getElem?_cons_zero,Option.some.injEq]at hj;subst hj;simp only[Ty.size,Nat.mul_one,Nat.add_zero,Vy,Y]
      grind
     |succ j=>grind
    ·simp only[CV];exact⟨Z,Nat.le_of_eq z.symm,_,rfl,q.one.1,fun _=>rfl⟩
  ·simp [Zb]at h
 ·rename_i id ver kt k i p G;simp only[ZC,Z4,ZL,Zi,Zb,ZR,Z3,Ks,Va]at h;obtain⟨r,m1,S,x',A,y,m,q,rfl,⟨rfl,rfl⟩,_⟩:=h;obtain⟨Z,hv,ad,f,C⟩:=(G▸hx).np;obtain⟨b0,d,z,a1⟩:=Zdf R Z S;obtain⟨b,len,cap,o',t1,L,M,h7⟩:=C z;obtain⟨b',a8,cs,e,n,c,hd,hJ,Y,hl,D,a5,a4,N,r',V,a0,_⟩:=Zmd a1 A;rw[L]at hd;simp only[Vta.injEq,Option.some.injEq,Addr.mk.injEq,and_true]at hd;obtain⟨rfl,_,_⟩:=hd;obtain⟨_,O,⟨o2,pre,post,s,I,J⟩,K⟩:=ZdV p r.1 x' _ _ y c q N;rw[d]at M h7;simp only[Di]at M h7;rw[s]at M;obtain⟨rfl,rfl⟩:=Vf (Option.some.inj M);subst h7;refine fin f (c:=O) ?_ (by assumption) (by simp [AV.fits]) rfl rfl;have:cs.toList=((n.take i).flatten++pre)++O++(post++((n.drop (i+1)).flatten++r')):=by grind
  have:=YQ.of_heap Y this
  grind
 ·simp [Zb]at h
theorem ZcK{T:TypeId}{t:Ty}(k:W7 P E.ty T t){b:Nat}{cs:Array Value}{e:TypeId}{pre c post d:List Value}{val:Value}(n:w.heap[b]? =some (.cells cs e (0,0)))
 (h:cs.toList=pre++c++post) (m:val.cells.toList=d) (q:c.length=d.length) (p:d.length=t.size) (j:∀v∈d,v.oneCell' =true):
 (storeVar T ⟨b,pre.length,none⟩ val).run P w=.ok () (w.setRow b (pre++d++post).toArray):=by
 have f:val.cells.size=t.size:=by grind
 have i:cs.size=pre.length+c.length+post.length:=by rw[<-Vt,h];grind
 simp only[storeVar,Vg,k.run_sizeOf,Ve,f,ne_eq,not_true_eq_false,if_false,m];rw[run_storeCells_at P b pre.length e d 0 cs w n (by omega) j]
 grind
theorem Rs{b:Nat}{cs cs' :Array Value}{e:TypeId}(c:w.heap[b]? =some (.cells cs e (0,0))):(w.setRow b cs').heap[b]? =some (.cells cs' e (0,0)):=setRow_heap w b cs cs' e (0,0) c
theorem Zx.write{id b:Nat}{h:K0}{cs' :Array Value}{r:Result Next}(d:RH B H w g ow)(c:H id≠none)(e:ow id b)(j:r=.ok .skip (w.setRow b cs'))
 (i:WF (w.setRow b cs') g (ow id) id h):Zx B (Kc H id (some h)) w g nid .junk r:=by
 have m:=d.sep id b c e;refine⟨undef,w.setRow b cs',g,ow,by grind,d.write c e (fun k f=>setRow_other w b k cs' f) (by simp) rfl rfl ⟨rfl,Vm _⟩ i,.refl g,?_,DO,by grind⟩;intro k f;exact setRow_other w b k cs' (by grind)
theorem Zdi{id b:Nat}{cs' :Array Value}(d:RH B H w g ow)(c:H id≠none)(f:ow id b):Kj g.I w (w.setRow b cs'):=fun k h=>
 setRow_other w b k cs' (fun e=>(d.sep id b c f).1 (e▸h))
theorem Zuh{t0:Ty}{xs:List (List (El t0))}{u:Nat}{hole:Option Nat}{id i:Nat}{y:AV}{val:Value}{ys:List (El t0)}{ids l l' :List Nat}{x' :List (El t0)}{r:Result Next}(A:RH B H w g ow)(hH:H id=some (.rows t0 xs u hole))
 (S:Rb hole i=true) (hu:u<nid) (b4:xs[i]? =some x') (L:VR w g y val) (z:(Xb t0 y).run H l=some ((ys,ids),l'))
 (Y:∀b cap cs e,g.blk id=some b->g.slv id=.slice (some ⟨b,0,none⟩) xs.length cap->w.heap[b]? =some (.cells cs e (0,0))->i<cs.size->r=.ok .skip (w.setRow b (cs.toList.set i val).toArray)):
 Zx B (Zr H (ids.map (fun id=>(id,none))++[(id,some (.rows t0 (xs.set i ys) nid none))])) w g nid .junk r:=by
 have G:=Zcx A L z;obtain⟨hK,a8,b0,O,hO⟩:=A.objs id _ hH
 have s:∀k,Zr H (ids.map fun id=>(id,none)) k≠none->k ∉ ids/\H k≠none:=by
  intro k J;rw[Dg]at J
  grind
 have U:id ∉ ids:=fun hm=>by
  rcases Zep A L z with ⟨rfl,_⟩|⟨b5,rfl,_,_⟩
  ·grind
  ·simp only[List.mem_singleton]at hm;subst hm;unfold Xb at z;split at z
   ·rename_i k;rw[Z1]at z;split at z
    ·rename_i a2;simp only[ZC,Zi,Va,List.cons.injEq,and_true]at z
     grind
    ·simp [Zb]at z
   ·rename_i k n;rw[Z1]at z;split at z
    ·rename_i a2;simp only[ZC,Zi,Va,List.cons.injEq,and_true]at z
     grind
    ·simp [Zb]at z
   ·simp only[Zi,Va]at z
    grind
   ·simp [Zb]at z
 rcases hO with ⟨rfl,_⟩|⟨b,cap,cs,e,hb,hJ,a7,hh,hl,a9,b1⟩
 ·grind
 ·have b2:i<xs.length:=by grind
  have C:H id≠none:=by grind
  have Y:=Y b cap cs e hb a7 hh (by omega);have b3:=A.sep id b C hJ;have a0:RH B (Zr H (ids.map fun id=>(id,none))) w g ow:=A.drops ids;rw[Xc];have m:∀k,k≠b->(w.setRow b (cs.toList.set i val).toArray).heap[k]? =w.heap[k]? :=fun k J=>setRow_other w b k _ J;have N:Kj g.I w (w.setRow b (cs.toList.set i val).toArray):=fun k J=>by grind
  have a5:∀d,Wo val=some d->ZV H ow ids d:=fun d c=>G.own c
  have a3:∀d,ZV H ow ids d->d≠b/\ ¬ow id d:=fun d ⟨k,Q,M,X⟩=>by
   have K:¬ow id d:=fun R=>U (A.dist id k d C M R X▸Q)
   grind
  let f:(W:Ty)->El W->Value:=fun W k=>if h:W=.int .i64 then(if (h▸k:El (.int .i64))=(i:Int) then val else g.row id W k) else g.row id W k
  have a6:∀j:Nat,j≠i->f (.int .i64) (j:Int)=g.row id (.int .i64) (j:Int):=by grind
  have D:f (.int .i64) (i:Int)=val:=by grind
  refine⟨undef,w.setRow b (cs.toList.set i val).toArray,g.bump id nid f,Xm ow id (fun d=>ow id d\/ZV H ow ids d),by grind,?_,Gh.le_bump (by omega),N,DO,fun _ h=>.inl h⟩;refine a0.bump (id:=id) (v:=nid) hK (by omega) (fun d c=>?_) (by simp) rfl rfl ⟨rfl,Vm _⟩ (fun d Q M=>m d fun e=>?_) (fun d c=>?_) ?_
  ·rcases c with c|⟨k,J,Q,M⟩
   ·grind
   ·refine m d fun e=>J ?_;subst e;exact(A.dist id k d C (s k Q).2 hJ M).symm
  ·grind
  ·rw[size_setRow];rcases c with c|⟨k,Q,M,X⟩
   ·obtain⟨p,q,r⟩:=A.sep id d C c;exact⟨p,q,r,fun k J R h5=>J (A.dist k id d (s k R).2 C h5 c)⟩
   ·obtain⟨p,q,r⟩:=A.sep k d M X;refine⟨p,q,r,fun k' J R h5=>(s k' R).1 ?_⟩;have:=A.dist k' k d (by grind) M h5 X
    grind
  ·refine⟨a8,Zp rfl,?_,.inr ⟨b,cap,(cs.toList.set i val).toArray,e,hb,.inl hJ,by show g.slv id=_;grind,setRow_heap w b cs _ e (0,0) hh,by grind,by grind,fun j V=>?_⟩⟩
   ·show RF _ g.I _ t0 (g.blk id) (fun j:Nat=>(if id=id then f else g.row id) (.int .i64) (j:Int)) _ none
    rw[Zp rfl];refine O.put (k0:=i) (x0:=ys) (by omega) (fun j x Z=>?_) ?_ ?_ (fun j x Z V Y=>?_) fun d c=>?_
    ·grind
    ·cases hole with
     |none=>simp
     |some j=>exact .inr (by rw[Vn S])
    ·show WH _ _ _ _ _ (f (.int .i64) (i:Int));rw[D];exact G.mono N (by simp) (by grind) (by grind)
    ·refine Y.mono N (by simp) (by grind) fun d c h=>m d fun e=>?_
     have K:hole≠some j:=fun e=>by rw[e]at S;exact V (Vn S)
     exact O.tp j x d Z K c (e▸hb)
    ·have c:Wo (f (.int .i64) (i:Int))=some d:=c;rw[D]at c;have a4:=a3 d (a5 d c);refine⟨fun j x Z V a1=>a4.2 ?_,by grind⟩
     have K:hole≠some j:=fun e=>by rw[e]at S;exact V (Vn S)
     exact(O.rd j x Z K).own a1
   ·have V:j<xs.length:=by grind
    show _=some ((if id=id then f else g.row id) (.int .i64) (j:Int))
    rw[Zp rfl];simp only[List.getElem?_toArray,List.getElem?_set]
    grind
theorem ZtD{w' :World}{id ver:Nat}{G:Ty}{k:El G}{r:(t:Ty) ×List (El t)}{row:List (El r.1)}{o' :K0}{l l' l2 b3:List Nat}{b i:Nat}(hR:RH B H w g ow)(c:(YB id ver G k).run H l=some (r,l'))
 (f:(Zfq id G k r.1 row).run H l2=some (o',b3)) (U:Wo (g.row id G k)=some b) (a9:i<r.2.length) (K:WH w' g.I (ow id) r.1 row (g.row id G k)) (n:∀k,k≠b->w'.heap[k]? =w.heap[k]?):WF w' g (ow id) id o' :=by
 have R:H id≠none:=by
  simp only[YB]at c;rw[Z1]at c;split at c
  ·grind
  ·grind
  ·simp [Zb]at c
 have b0:ow id b:=K.own U;have N:Kj g.I w w' :=fun k hk=>n k fun e=>(hR.sep id b R b0).1 (e▸hk);simp only[YB]at c;rw[Z1]at c;simp only[Zfq]at f;rw[Z1]at f;split at c
 ·rename_i t xs u W;rw[W]at f;simp only[ZL,ZC,Zi,Zb,ZR,Z3]at c f;obtain⟨hu,i',a2,x,p,rfl,_⟩:=c;obtain⟨L,a3,y,hy,rfl,_⟩:=f;obtain⟨rfl,rfl⟩:=KR a2;have:=Zdu a3;subst this;obtain⟨_,rfl⟩:=D2 hy;obtain⟨_,S,A,h,hO⟩:=hR.objs id _ W;unfold idx at p;split at p
  ·rename_i h0;have D:=p;have b7:L.toNat<xs.length:=by grind
   have e1:((L.toNat:Nat):Int)=L:=Int.toNat_of_nonneg h0;refine⟨S,A,h.put (k0:=L.toNat) (x0:=y) (by simp) (fun j x p=>?_) (.inl rfl) (by grind) (fun j x p Q hr=>?_) (fun J q=>?_),?_⟩
   ·grind
   ·refine hr.mono N (by simp) (by simp) fun J q _=>n J fun e=>?_;subst e;exact h.ds j L.toNat x _ J p D Q (by simp) (by simp) q (by grind)
   ·simp only[e1]at q;rw[U]at q;cases q;exact⟨fun j x p Q O=>h.ds j L.toNat x _ b p D Q (by simp) (by simp) O (by grind),h.tp L.toNat _ b D (by simp) (by grind)⟩
   ·rcases hO with ⟨rfl,_⟩|⟨J,cap,cs,e,Z,h2,h3,h4,h5,h6,h7⟩
    ·grind
    ·refine .inr ⟨J,cap,cs,e,Z,h2,by grind,(n J fun e=>?_).trans h4,by grind,h6,by grind⟩;exact h.tp L.toNat _ b D (by simp) (by grind) (e▸Z)
  grind
 ·rename_i b8 t m u W;rw[W]at f;simp only[ZL,ZC,Zi,Zb,ZR,Z3,Vb]at c f;obtain⟨⟨hu,a8⟩,k',a5,rfl,_⟩:=c;obtain⟨M,a6,y,hy,rfl,_⟩:=f;obtain⟨rfl,rfl⟩:=KR a5;have:=Zdu a6;subst this;obtain⟨_,rfl⟩:=D2 hy;obtain⟨_,S,A,h,Y,b4,J,es,clock,Z,h2,h3,h4⟩:=hR.objs id _ W;have s:=Do a8;simp only at a9
  cases hg:ZI (Zj G) M m with
  |none=>grind
  |some x0=>
   have z:=Zdk s hg;have a4:M∈m.map Vh:=by grind
   have a7:=(DY s (v:=y)).1 a4;have b1:=h.tp M x0 b z (by simp) U;refine⟨S,A,h.put (k0:=M) (x0:=y) (by simp) (fun j x p=>Zed s Y p) (.inl rfl) K (fun j x p Q hr=>?_) (fun b2 C=>?_),Zfz s Y,by grind,J,es,clock,Z,h2,by grind,h4.1,?_⟩
   ·refine hr.mono N (by simp) (by simp) fun b2 C _=>n b2 fun e=>?_;subst e;exact h.ds j M x _ b2 p z Q (by simp) (by simp) C U
   ·rw[U]at C;cases C;exact⟨fun j x p Q O=>h.ds j M x _ b p z Q (by simp) (by simp) O U,b1⟩
   ·rw[DX];have V:=h4.2.mono fun kv e p=>(⟨p.1.mono N (.refl g),p.2⟩:Kk w' g (.d G kv.1) e.key/\e.val=g.row id G kv.1)
    cases X:WR (Zj G) M m with
    |none=>
     rw[G4,X]at hg;grind
    |some j=>
     simp only;obtain⟨e1,a0,a1⟩:=DW _ _ _ _ X;obtain⟨en,b6,hp⟩:=V.get j e1 a0;have b5:=(Jv s).1 a1;have:=V.set j (a:=(M,y)) (b:=en) (by grind)
     have e5:es.toList.set j en=es.toList:=by
      apply List.ext_getElem?
      grind
     grind
 ·simp [Zb]at c
theorem ZoL{T:TypeId}{x y:Operand}(hT:Z9 P E)(C:RH B H w g ow)(hF:Fr w g F a.tmps)(ho:o.op=.store T x y)
 (h:(ZQ E nid o.op o.type (ZB F)).run H []=some ((v,patch),rd)):Zx B (Zr H patch) w g nid v ((execOp a.eval o).run P w):=by
 rw[ho]at h;simp only[ZQ,ZC,ZL,Zb,ZR,Z3]at h;obtain⟨t,ht,hf,h⟩:=h;have hx:=hF.eval x;have hy:=(hF.eval y).to1 (ZaU hf).2;have Q:=CV.oneCell _ _ (ZaU hf).1 hy.1 t hf;have O:=CV.length _ t _ hf hy.1;split at h
 ·rename_i id p D;rw[Z1]at h;split at h
  ·rename_i t0 c hH;simp only[Z4,Zi,Va]at h;obtain⟨c',m,h1,⟨rfl,rfl⟩,_⟩:=h;obtain⟨hk,o',t1,b,R,S,W⟩:=(D▸hx).ptr;obtain⟨_,q,b5,b',cs,e,h6,h7,h8,h9,b1⟩:=C.objs id _ hH;obtain⟨_,o2,pre,c1,post,t2,⟨G,A,J,K⟩,L,b2⟩:=Zmr h1 b5 b1 hy.1 (by omega);rw[q,G]at R;obtain⟨rfl,rfl⟩:=Vf (Option.some.inj R);rw[S]at h6;cases h6;subst J;have j:=Zdi (cs' :=(pre++(a.eval y).cells.toList++post).toArray) C (by grind) h7;refine Zx.write C (by grind) h7 (cs' :=(pre++(a.eval y).cells.toList++post).toArray) ?_ ?_
   ·simp only[execOp,ho,W,Via,Vx,Vg,Vi,Ve,ZcK (hT.ty T t ht) h8 A rfl K O Q]
   ·refine⟨q,L,b,_,e,S,h7,Rs h8,?_,?_⟩
    ·have:cs.size=pre.length+c1.length+post.length:=by rw[<-Vt,A];grind
     grind
    ·simpa using CV.mono j (.refl g) _ _ b2
  ·simp [Zb]at h
 ·rename_i id i p D;rw[Z1]at h;split at h
  ·rename_i t0 xs hH;simp only[ZC,Z4,Zi,Va]at h;obtain⟨e0,V,dv,M,e',m,h1,⟨rfl,rfl⟩,_⟩:=h
   have a0:ZB F y=.d dv.1 dv.2:=by
    cases N:ZB F y<;>rw[N]at M<;>simp [AV.dv?]at M
    grind
   rw[a0]at hy hf;obtain⟨hk,o',t1,b,R,S,W⟩:=(D▸hx).vp;obtain⟨_,hO⟩:=C.objs id _ hH;obtain⟨b',cap,cs,e,f,c,q,hb,hJ,b8,N,hl,a6,a1,b3,a4,r,b4,a3,Z⟩:=Zm7 hO V;obtain⟨_,o2,pre,c1,post,G,A,J,K,L⟩:=ZeG p t0 e0 _ _ dv e' c _ h1 a4 (by simpa only[CV] using hy.1);rw[q,G]at R;obtain⟨rfl,rfl⟩:=Vf (Option.some.inj R);rw[S]at hb;cases hb;subst J;have n:cs.toList=((f.take i).flatten++pre)++c1++(post++((f.drop (i+1)).flatten++r)):=by grind
   have j:=Zdi (cs' :=(((f.take i).flatten++pre)++(a.eval y).cells.toList++(post++((f.drop (i+1)).flatten++r))).toArray) C (by grind) hJ;refine Zx.write C (by grind) hJ (cs' :=(((f.take i).flatten++pre)++(a.eval y).cells.toList++(post++((f.drop (i+1)).flatten++r))).toArray) ?_ ?_
   ·have s:i* (g.ty id).size+pre.length=((f.take i).flatten++pre).length:=by grind
    simp only[execOp,ho,W,Via,Vx,Vg,Vi,Ve,s,ZcK (hT.ty T t ht) N n rfl K O Q]
   ·have a2:(f.set i (pre++(a.eval y).cells.toList++post)).flatten++r=((f.take i).flatten++pre)++(a.eval y).cells.toList++(post++((f.drop (i+1)).flatten++r)):=by grind
    refine⟨q,.inr ⟨b,cap,_,e,f.set i (pre++(a.eval y).cells.toList++post),S,hJ,by grind,Rs N,by grind,?_,?_,r,?_⟩⟩
    ·have:cs.size=((f.take i).flatten++pre).length+c1.length+(post++((f.drop (i+1)).flatten++r)).length:=by rw[<-Vt,n];grind
     grind
    ·exact(a1.set i L).mono fun x c hx=>Rd.mono j (by simp) t0 x c hx
    omega
  ·rename_i t0 xs u c4 hH;simp only[ZC,ZL,Z4,Zi,Zb,ZR,Z3,Ks,Va,Vb,Vp]at h;obtain⟨⟨⟨rfl,rfl⟩,b6⟩,uu,z,x',b9,⟨ys,ids⟩,m,Y,⟨rfl,rfl⟩,_⟩:=h;have z:=Ht z;obtain⟨hk,o',t1,b,R,S,W⟩:=(D▸hx).vp;rw[WE]at R;obtain⟨rfl,rfl⟩:=Vf (Option.some.inj R);refine Zuh C hH z (Vma b6) b9 (hF.eval y) Y fun b' cap cs e hb b8 N hi=>?_;rw[S]at hb;cases hb;obtain⟨_,q,_⟩:=C.objs id _ hH;have j:Ka (a.eval y)=false:=(Zcx C (hF.eval y) Y).one.2
   have U:(a.eval y).cells.toList=[a.eval y]:=by
    cases hv:a.eval y<;>rw[hv]at j<;>simp [Ka]at j<;>rfl
   have hl:i<cs.toList.length:=by omega
   have A:cs.toList=cs.toList.take i++[cs.toList[i]]++cs.toList.drop (i+1):=by rw[Vqa,List.singleton_append, <-Vea hl,Vz]
   have c5:(cs.toList.take i).length=i:=by grind
   have a5:i* (g.ty id).size+0=(cs.toList.take i).length:=by grind
   have:=ZcK (hT.ty T _ ht) N A (d:=[a.eval y]) U rfl rfl (by grind);simp only[execOp,ho,W,Via,Vx,Vg,Vi,Ve,a5,this]
   grind
  ·simp [Zb]at h
 ·rename_i id ver kt k i p D;simp only[ZC,Z4,Zi,Va]at h;obtain⟨r,m1,X,e0,V,dv,M,e',m2,h1,o',m3,Z,⟨rfl,rfl⟩,_⟩:=h
  have a0:ZB F y=.d dv.1 dv.2:=by
   cases N:ZB F y<;>rw[N]at M<;>simp [AV.dv?]at M
   grind
  rw[a0]at hy hf;obtain⟨hk,hv,ad,R,S⟩:=(D▸hx).np;obtain⟨a7,q,b0,a9⟩:=Zdf C hk X;obtain⟨b,len,cap,o2,t1,W,h6,h7⟩:=S b0;obtain⟨b',c2,cs,e,f,c,hd,hJ,N,hl,a6,a1,b3,a4,r',b4,a3,b7⟩:=Zmd a9 V;rw[W]at hd;simp only[Vta.injEq,Option.some.injEq,Addr.mk.injEq,and_true]at hd;obtain⟨rfl,rfl,rfl⟩:=hd;obtain⟨_,o3,pre,c1,post,G,A,J,K,L⟩:=ZeG p r.1 e0 _ _ dv e' c _ h1 a4 (by simpa only[CV] using hy.1);rw[q]at h6 h7;simp only[Di]at h6 h7;rw[G]at h6;obtain⟨rfl,rfl⟩:=Vf (Option.some.inj h6);subst J;subst h7;have n:cs.toList=((f.take i).flatten++pre)++c1++(post++((f.drop (i+1)).flatten++r')):=by grind
  have j:=Zdi (cs' :=(((f.take i).flatten++pre)++(a.eval y).cells.toList++(post++((f.drop (i+1)).flatten++r'))).toArray) C a7 hJ;have a2:(f.set i (pre++(a.eval y).cells.toList++post)).flatten++r' =((f.take i).flatten++pre)++(a.eval y).cells.toList++(post++((f.drop (i+1)).flatten++r')):=by grind
  have a8:WH (w.setRow b (((f.take i).flatten++pre)++(a.eval y).cells.toList++(post++((f.drop (i+1)).flatten++r'))).toArray) g.I (ow id) r.1 (r.2.set i e') (g.row id kt k):=by
   refine .inr ⟨b,cap,_,e,f.set i (pre++(a.eval y).cells.toList++post),by grind,hJ,Rs N,by grind,?_,?_,r',?_⟩
   ·have:cs.size=((f.take i).flatten++pre).length+c1.length+(post++((f.drop (i+1)).flatten++r')).length:=by rw[<-Vt,n];grind
    grind
   ·exact(a1.mono fun x c hx=>Rd.mono j (by simp) _ x c hx).set i (Rd.mono j (by simp) _ _ _ L)
   omega
  refine Zx.write C a7 hJ (cs' :=(((f.take i).flatten++pre)++(a.eval y).cells.toList++(post++((f.drop (i+1)).flatten++r'))).toArray) ?_ ?_
  ·have s:i*r.1.size+pre.length=((f.take i).flatten++pre).length:=by grind
   simp only[execOp,ho,R,Via,Vx,Vg,Vi,Ve,s,ZcK (hT.ty T t ht) N n rfl K O Q]
  ·exact ZtD C X Z (by rw[W];rfl) (Vs.1 V).1 a8 (fun k hk=>setRow_other w b k _ hk)
 ·simp [Zb]at h
end ops
end Tr
end
