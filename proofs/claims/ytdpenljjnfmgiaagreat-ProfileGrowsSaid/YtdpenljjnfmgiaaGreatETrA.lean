/- The data of the abstract machine: type codes, their Lean types, what it means that cells of memory read as a datum; abstract values, and what it means that a value of the model is one. Conditions: none (definitions and monotonicity). -/
import Derived.Orders
import Derived.Laws.Cells
import Derived.Laws.CopyRow
import Derived.Laws.Tables
import Derived.Laws.Rows
import Derived.Laws.World
import Derived.Laws.AppendOwn
open Array renaming getElem?_eq_getElem ->Vz,toList_push ->Vla,toList ->Vxa
open BitVec renaming ofInt ->Vm
open Bool renaming and_eq_true ->Va,false_eq_true ->Vf,not_eq_true' ->Vba,not_eq_true ->Vpa,or_eq_true ->Vsa,not_false ->Vua,false_and ->Vva,and_true ->Vwa
open List renaming length_append ->Vi,getElem?_append_right ->Vo,range ->Vp,map_cons ->Vq,replicate ->Vt,append_inj ->Vu,getD_eq_getElem?_getD ->Vy,getElem?_eq_some_iff ->Vaa,getElem?_append_left ->Vca,isEmpty_iff ->Vda,mem_append ->Vga,take_append_drop ->Vha,mem_cons ->Vka,nodup_append ->Vma,flatten_cons ->Vna,all_eq_true ->Voa,map_append ->Vqa,nodup_cons ->Vta,mem_map ->Vya
open Nat renaming beq ->Vc,blt ->Vg,le_refl ->Vl,le_trans ->Vv,ble ->Vw,zero_add ->Vea,eq_of_beq_eq_true ->Via
open Option renaming isSome_none ->Vr,bind_eq_some_iff ->Vfa
open Prod renaming fst ->Ve,snd ->Vra,ext ->Vza
open Prod.mk renaming injEq ->Vd,inj ->Vk
open Go.Result renaming andThen_ok ->Vj
open Go.Sem renaming run_bind ->Vn,run_pure ->Vs
open Go.Value renaming oneCell' ->Vb,cells ->Vh,pointer ->Vja,slice ->Vab
open Go.World renaming cell? ->Vx
section
namespace Tr
theorem Zi{p:Prop}[Decidable p](h:p):decide p=true:=decide_eq_true h
theorem Zv{p:Prop}[Decidable p](h:¬p):decide p=false:=decide_eq_false h
theorem Za{α:Type _}{β:Type _}(a:α)(f:α->Option β):(some a).bind f=f a:=rfl
theorem Zc{α:Sort _}(a b:α):cond true a b=a:=rfl
theorem Ze{α:Sort _}(a b:α):cond false a b=b:=rfl
theorem Zr{c:Prop}{h:Decidable c}(k:c){α:Sort _}{t e:α} :ite c t e=t:=if_pos k
theorem Zf{c:Prop}{h:Decidable c}(k:¬c){α:Sort _}{t e:α} :ite c t e=e:=if_neg k
theorem WC{p:Prop}[Decidable p]:(decide p=true)=p:=decide_eq_true_eq
theorem ZJ(p:Prop):(p/\False)=False:=and_false p
theorem ZY(p:Prop):(p\/False)=p:=or_false p
theorem Kd{α:Type _}[BEq α][LawfulBEq α]{a b:α} :a==b↔a=b:=beq_iff_eq
theorem J9{p:Prop}[Decidable p](h:decide p=true):p:=of_decide_eq_true h
open Go
inductive Ty where
 |int (k:IntKind)
 |bool
 |str
 |sl (t:Ty)
 |unit
 |prod (a b:Ty)
 |arr (n:Nat) (t:Ty)
 |ref
 |pt (t:Ty)
 |lk (a b:Ty)
 |pn (t:Ty)
 deriving DecidableEq
@[reducible] def El:Ty->Type
  |.int _=>Int
  |.bool=>Bool
  |.str=>List UInt8
  |.sl t=>List (El t)
  |.unit=>Unit
  |.prod a b=>El a×El b
  |.arr _ t=>List (El t)
  |.ref=>Unit
  |.pt t=>Option (El t)
  |.lk a b=>List (El a×El b)
  |.pn t=>Option (Nat×El t)
def Ty.size:Ty->Nat
 |.unit=>0
 |.prod a b=>a.size+b.size
 |.arr n t=>n*t.size
 |_=>1
def Ty.agg:Ty->Bool
 |.unit=>true
 |.prod _ _=>true
 |.arr _ _=>true
 |_=>false
def Kp(w:World)(b off:Nat)(l:List Value):Prop:= ∀j,(h:j<l.length)->w.cell? ⟨b,off+j,none⟩=some l[j]
def Fa{α β:Type}(r:α->β->Prop):List α->List β->Prop
 |[],[]=>True
 |a::l,b::m=>r a b/\Fa r l m
 |_,_=>False
def Y6(w:World)(I:Nat->Prop){α:Type}(r:α->List Value->Prop):Option α->List Value->Prop
 |none,cs=>cs=[.pointer none]
 |some y,cs=>∃b cells e,cs=[.pointer (some ⟨b,0,none⟩)]/\I b/\w.heap[b]? =some (.cells cells e (0,0))/\r y cells.toList
def Yp(w:World)(I:Nat->Prop){α:Type}(r:α->List Value->Prop):Option (Nat×α)->List Value->Prop
 |none,cs=>cs=[.pointer none]
 |some y,cs=>∃cells e,cs=[.pointer (some ⟨y.1,0,none⟩)]/\I y.1/\w.heap[y.1]? =some (.cells cells e (0,0))/\r y.2 cells.toList
def Xm(w:World)(I:Nat->Prop){α β:Type}(e:α->List Value->Prop)(f:β->List Value->Prop):List (α×β)->List Value->Prop
 |[],cs=>cs=[.pointer none]
 |y::l,cs=>∃b off c cl d,cs=[.pointer (some ⟨b,off,none⟩)]/\I b/\Kp w b off (c++(cl++d))/\e y.1 c/\Xm w I e f l cl/\f y.2 d
def Rd(w:World)(I:Nat->Prop):(t:Ty)->El t->List Value->Prop
 |.int k,x,cs=>cs=[.int k x]
 |.bool,x,cs=>cs=[.bool x]
 |.str,x,cs=>cs=[.string ⟨x.toArray⟩]
 |.sl t,x,cs=>∃a cap c,cs=[.slice a x.length cap]/\Fa (Rd w I t) x c/\(x≠ []->∃b off,a=some ⟨b,off,none⟩/\I b/\Kp w b off c.flatten)/\x.length<=cap
 |.unit,_,cs=>cs=[]
 |.prod a b,x,cs=>∃d e,cs=d++e/\Rd w I a x.1 d/\Rd w I b x.2 e
 |.arr n t,x,cs=>x.length=n/\ ∃c,cs=c.flatten/\Fa (Rd w I t) x c
 |.ref,_,_=>False
 |.pt t,x,cs=>Y6 w I (Rd w I t) x cs
 |.lk a b,x,cs=>Xm w I (Rd w I a) (Rd w I b) x cs
 |.pn t,x,cs=>Yp w I (Rd w I t) x cs
theorem Fa.mono{α β:Type}{r s:α->β->Prop}(h:∀a b,r a b->s a b):∀{l:List α}{m:List β},Fa r l m->Fa s l m
 |[],[],_=>trivial
 |_::_,_::_,⟨p,q⟩=>⟨h _ _ p,Fa.mono h q⟩
theorem Fa.length{α β:Type}{r:α->β->Prop} :∀{l:List α}{m:List β},Fa r l m->l.length=m.length
 |[],[],_=>rfl
 |_::_,_::_,⟨_,q⟩=>by simp [Fa.length q]
theorem Fa.get{α β:Type}{r:α->β->Prop} :∀{l:List α}{m:List β} (_:Fa r l m) (i:Nat) (a:α),l[i]? =some a->∃b,m[i]? =some b/\r a b
 |[],[],_,i,a,h=>by grind
 |x::l,y::m,⟨p,q⟩,i,a,h=>by
  cases i with
  |zero=>grind
  |succ i=>simp at h;obtain⟨b,c,d⟩:=Fa.get q i a h;grind
theorem Fa.append{α β:Type}{r:α->β->Prop} :∀{l l' :List α}{m b:List β},Fa r l m->Fa r l' b->Fa r (l++l') (m++b)
 |[],_,[],_,_,h=>h
 |_::_,_,_::_,_,⟨p,q⟩,h=>⟨p,Fa.append q h⟩
theorem Fa.take{α β:Type}{r:α->β->Prop} :∀{l:List α}{m:List β} (n:Nat),Fa r l m->Fa r (l.take n) (m.take n)
 |[],[],n,_=>by grind
 |_::_,_::_,0,_=>by simp [Fa]
 |_::_,_::_,n+1,⟨p,q⟩=>by simp only[List.take_succ_cons];exact⟨p,Fa.take n q⟩
theorem Fa.drop{α β:Type}{r:α->β->Prop} :∀{l:List α}{m:List β} (n:Nat),Fa r l m->Fa r (l.drop n) (m.drop n)
 |[],[],n,_=>by grind
 |_::_,_::_,0,h=>h
 |_::_,_::_,n+1,⟨_,q⟩=>by simp only[List.drop_succ_cons];exact Fa.drop n q
theorem Fa.set{α β:Type}{r:α->β->Prop} :∀{l:List α}{m:List β} (n:Nat) {a:α}{b:β},Fa r l m->r a b->Fa r (l.set n a) (m.set n b)
 |[],[],_,_,_,_,_=>by grind
 |_::_,_::_,0,_,_,⟨_,q⟩,h=>⟨h,q⟩
 |_::_,_::_,n+1,_,_,⟨p,q⟩,h=>⟨p,Fa.set n q h⟩
theorem Fa.eraseIdx{α β:Type}{r:α->β->Prop} :∀{l:List α}{m:List β} (n:Nat),Fa r l m->Fa r (l.eraseIdx n) (m.eraseIdx n)
 |[],[],_,_=>trivial
 |_::_,_::_,0,⟨_,q⟩=>q
 |_::_,_::_,n+1,⟨p,q⟩=>⟨p,Fa.eraseIdx n q⟩
def Kf(I:Nat->Prop)(w w' :World):Prop:= ∀b,I b->w'.heap[b]? =w.heap[b]?
theorem ZoN{w w' :World}{a:Addr}(h:w'.heap[a.block]? =w.heap[a.block]?):w'.cell? a=w.cell? a:=by simp [Vx,h]
theorem Kp.mono{w w' :World}{b off:Nat}{l:List Value}(h:w'.heap[b]? =w.heap[b]?)(d:Kp w b off l):Kp w' b off l:=by intro j c;rw[ZoN (by simpa using h)];exact d j c
theorem Y6.mono{w w' :World}{I d:Nat->Prop}{α:Type}{r i:α->List Value->Prop}(q:Kf I w w')(n:∀b,I b->d b)(p:∀x c,r x c->i x c):∀(x:Option α) (cs:List Value),Y6 w I r x cs->Y6 w' d i x cs
 |none,_,h=>h
 |some _,_,⟨b,c,e,j,f,k,m⟩=>⟨b,c,e,j,n _ f,(q _ f).trans k,p _ _ m⟩
theorem Xm.mono{w w' :World}{I f:Nat->Prop}{α β:Type}{p d:α->List Value->Prop}{q e:β->List Value->Prop}(n:Kf I w w')(j:∀b,I b->f b)(k:∀x c,p x c->d x c)(m:∀x c,q x c->e x c):∀(x:List (α×β)) (cs:List Value),Xm w I p q x cs->Xm w' f d e x cs
 |[],_,h=>h
 |_::l,_,⟨b,off,r,cl,s,u,i,y,z,A,C⟩=>⟨b,off,r,cl,s,u,j _ i,y.mono (n _ i),k _ _ z,Xm.mono n j k m l cl A,m _ _ C⟩
theorem Yp.mono{w w' :World}{I d:Nat->Prop}{α:Type}{r i:α->List Value->Prop}(q:Kf I w w')(n:∀b,I b->d b)(p:∀x c,r x c->i x c):∀(x:Option (Nat×α)) (cs:List Value),Yp w I r x cs->Yp w' d i x cs
 |none,_,h=>h
 |some _,_,⟨c,e,j,f,k,m⟩=>⟨c,e,j,n _ f,(q _ f).trans k,p _ _ m⟩
theorem Yp.length{w:World}{I:Nat->Prop}{α:Type}{r:α->List Value->Prop} :∀{x:Option (Nat×α)}{cs:List Value},Yp w I r x cs->∃a,cs=[.pointer a]
 |none,_,h=>⟨_,h⟩
 |some _,_,⟨_,_,h,_⟩=>⟨_,h⟩
theorem Y6.length{w:World}{I:Nat->Prop}{α:Type}{r:α->List Value->Prop} :∀{x:Option α}{cs:List Value},Y6 w I r x cs->∃a,cs=[.pointer a]
 |none,_,h=>⟨_,h⟩
 |some _,_,⟨_,_,_,h,_⟩=>⟨_,h⟩
theorem Xm.length{w:World}{I:Nat->Prop}{α β:Type}{b:α->List Value->Prop}{c:β->List Value->Prop} :∀{x:List (α×β)}{cs:List Value},Xm w I b c x cs->∃a,cs=[.pointer a]
 |[],_,h=>⟨_,h⟩
 |_::_,_,⟨_,_,_,_,_,h,_⟩=>⟨_,h⟩
theorem Rd.mono{w w' :World}{I q:Nat->Prop}(e:Kf I w w')(d:∀b,I b->q b):∀(t:Ty) (x:El t) (cs:List Value),Rd w I t x cs->Rd w' q t x cs
 |.int _,_,_,h=>h
 |.bool,_,_,h=>h
 |.str,_,_,h=>h
 |.sl t,x,cs,h=>by
  obtain⟨a,cap,i,j,k,m,C⟩:=h;refine⟨a,cap,i,j,k.mono fun y c f=>Rd.mono e d t y c f,fun p=>?_,C⟩;obtain⟨b,off,z,r,A⟩:=m p
  exact⟨b,off,z,d _ r,A.mono (e _ r)⟩
 |.unit,_,_,h=>h
 |.prod a b,x,cs,h=>by
  obtain⟨s,u,j,k,m⟩:=h
  exact⟨s,u,j,Rd.mono e d a _ _ k,Rd.mono e d b _ _ m⟩
 |.arr n t,x,cs,h=>by
  obtain⟨j,i,k,m⟩:=h
  exact⟨j,i,k,m.mono fun y c f=>Rd.mono e d t y c f⟩
 |.ref,_,_,h=>h.elim
 |.pt t,x,cs,h=>Y6.mono e d (fun y c f=>Rd.mono e d t y c f) x cs h
 |.lk a b,x,cs,h=>Xm.mono e d (fun y c f=>Rd.mono e d a y c f) (fun y c f=>Rd.mono e d b y c f) x cs h
 |.pn t,x,cs,h=>Yp.mono e d (fun y c f=>Rd.mono e d t y c f) x cs h
theorem Jy{css:List (List Value)}{n:Nat}(h:∀c∈css,c.length=n):css.flatten.length=css.length*n:=by
 induction css with
 |nil=>simp
 |cons c l b=>
  grind
theorem Fa.all_right{α β:Type}{r:α->β->Prop}{p:β->Prop}(d:∀a b,r a b->p b):∀{l:List α}{m:List β},Fa r l m->∀b∈m,p b
 |[],[],_=>by simp
 |_::_,y::m,⟨h,q⟩=>by
  intro b c;simp at c;rcases c with rfl|c
  ·grind
  ·exact Fa.all_right d q b c
theorem Rd.length{w:World}{I:Nat->Prop} :∀(t:Ty) (x:El t) (cs:List Value),Rd w I t x cs->cs.length=t.size
 |.int _,_,_,h=>by rw[h];rfl
 |.bool,_,_,h=>by rw[h];rfl
 |.str,_,_,h=>by rw[h];rfl
 |.sl t,x,cs,h=>by
  obtain⟨a,cap,f,d,_⟩:=h
  rw[d];rfl
 |.unit,_,_,h=>by rw[h];rfl
 |.prod a b,x,cs,h=>by
  obtain⟨k,m,d,i,e⟩:=h
  rw[d,Vi,Rd.length a _ _ i,Rd.length b _ _ e];rfl
 |.arr n t,x,cs,h=>by
  obtain⟨d,f,i,e⟩:=h
  rw[i,Jy (e.all_right fun y c j=>Rd.length t y c j), <-e.length,d];rfl
 |.ref,_,_,h=>h.elim
 |.pt t,x,cs,h=>by obtain⟨a,rfl⟩:=Y6.length h;rfl
 |.lk a b,x,cs,h=>by obtain⟨p,rfl⟩:=Xm.length h;rfl
 |.pn t,x,cs,h=>by obtain⟨a,rfl⟩:=Yp.length h;rfl
theorem Rd.all_length{w:World}{I:Nat->Prop}{t:Ty}{x:List (El t)}{css:List (List Value)}(h:Fa (Rd w I t) x css):∀c∈css,c.length=t.size:=
 h.all_right fun y c b=>Rd.length t y c b
mutual
inductive AV where
 |d (t:Ty) (x:El t)
 |junk
 |tup (l:Zl)
 |agg (l:Zl)
 |dp (t:Ty) (x:El t)
 |ptr (id:Nat) (path:List Nat)
 |vw (id:Nat)
 |vs (id lo n:Nat)
 |vp (id i:Nat) (path:List Nat)
 |mp (id:Nat)
 |fn (f:FuncId) (c:Zl)
 |nilr (p:Bool)
 |nils
 |jk (n:Nat)
 |nw (id ver:Nat) (b:Ty) (k:El b)
 |np (id ver:Nat) (b:Ty) (k:El b) (i:Nat) (path:List Nat)
 |op (id i:Nat)
inductive Zl where
 |nil
 |cons (v:AV) (l:Zl)
end
def ZM:Ty->List Nat->Option (Nat×Ty)
 |t,[]=>some (0,t)
 |.prod a b,i::p=>match i with
  |0=>ZM a p
  |n+1=>(ZM b (n::p)).map fun r=>(r.1+a.size,r.2)
 |.arr n t,i::p=>if i<n then(ZM t p).map fun r=>(r.1+i*t.size,r.2) else none
 |_,_::_=>none
def Y0:Ty->List Nat->Option Ty
 |t,[]=>some t
 |.prod a b,i::p=>match i with
  |0=>Y0 a p
  |n+1=>Y0 b (n::p)
 |.arr _ t,_::p=>Y0 t p
 |_,_::_=>none
structure Gh where
 I:Nat->Prop
 K:Nat->Prop
 ty:Nat->Ty
 blk:Nat->Option Nat
 slv:Nat->Value
 ver:Nat->Nat
 row:Nat->(kt:Ty)->El kt->Value
structure Gh.Le (g g' :Gh):Prop where
 I:∀b,g.I b->g'.I b
 K:∀id,g.K id->g'.K id
 ty:∀id,g.K id->g'.ty id=g.ty id
 blk:∀id,g.K id->g'.blk id=g.blk id
 slv:∀id,g.K id->g'.slv id=g.slv id
 ver:∀id,g.K id->g.ver id<=g'.ver id
 row:∀id,g.K id->g'.ver id=g.ver id->g'.row id=g.row id
theorem Gh.Le.refl(g:Gh):g.Le g:=⟨fun _ h=>h,fun _ h=>h,by simp,by simp,by simp,by omega,by simp⟩
theorem Gh.Le.trans{a b c:Gh}(h:a.Le b)(k:b.Le c):a.Le c:=
 ⟨fun i p=>k.I _ (h.I i p),fun i p=>k.K _ (h.K i p),fun i p=>(k.ty _ (h.K i p)).trans (h.ty i p),fun i p=>(k.blk _ (h.K i p)).trans (h.blk i p),fun i p=>(k.slv _ (h.K i p)).trans (h.slv i p),fun i p=>Vv (h.ver i p) (k.ver _ (h.K i p)),fun i p e=>by have d:=h.ver i p;have f:=k.ver _ (h.K i p);exact(k.row _ (h.K i p) (by omega)).trans (h.row i p (by omega))⟩
def Db:Ty->Ty
 |.sl t=>t
 |t=>t
def Za9(v:Value)(size lo n:Nat)(cs:List Value):Prop:=
 (v=.slice none 0 0/\lo=0/\n=0/\cs=[.slice none 0 0])\/
 ∃b len cap m,v=.slice (some ⟨b,0,none⟩) len cap/\lo+n<=len/\n<=m/\lo+m<=cap/\cs=[.slice (some ⟨b,if m=0 then 0 else lo*size,none⟩) n m]
def Wu:Nat:=1000
def HE(f:FuncId):FuncId:=bif Vg f Wu then f else f - Wu
def JL(f:FuncId)(b:List Value):Value:=bif Vg f Wu then .func (.func f) #[] b.toArray else .func (.func (f - Wu)) b.toArray #[]
theorem ZaK(f:FuncId)(b:List Value):(Vg f Wu=true/\JL f b=.func (.func f) #[] b.toArray)\/(Vg f Wu=false/\JL f b=.func (.func (f - Wu)) b.toArray #[]):=by
 unfold JL
 cases h:Vg f Wu<;>simp
theorem ZqJ(f:FuncId)(b:List Value):(JL f b).oneCell'=true:=by
 rcases ZaK f b with ⟨_,h⟩|⟨_,h⟩<;>rw[h]<;>rfl
theorem ZqH(f:FuncId)(b:List Value):(JL f b).cells= #[JL f b]:=by
 rcases ZaK f b with ⟨_,h⟩|⟨_,h⟩<;>rw[h]<;>rfl
theorem ZqI{f:FuncId}{c b:List Value}(h:JL f c=JL f b):c=b:=by
 unfold JL at h
 cases d:Vg f Wu<;>rw[d]at h
 ·simp only[Ze,Value.func.injEq,true_and,and_true]at h;simpa using congrArg Vxa h
 ·simp only[Zc,Value.func.injEq,true_and]at h;simpa using congrArg Vxa h
mutual
def CV(w:World)(g:Gh):AV->List Value->Prop
 |.d t x,cs=>Rd w g.I t x cs
 |.junk,_=>True
 |.tup _,_=>False
 |.agg l,cs=>Z2 w g l cs
 |.dp t x,cs=>∃b off c,cs=[.pointer (some ⟨b,off,none⟩)]/\g.I b/\Kp w b off c/\Rd w g.I t x c
 |.ptr id p,cs=>g.K id/\ ∃o t b,ZM (g.ty id) p=some (o,t)/\g.blk id=some b/\cs=[.pointer (some ⟨b,o,none⟩)]
 |.vw id,cs=>g.K id/\cs=[g.slv id]/\(g.slv id).oneCell'=true
 |.vs id lo n,cs=>g.K id/\Za9 (g.slv id) (g.ty id).size lo n cs
 |.vp id i p,cs=>g.K id/\ ∃o t b,ZM (g.ty id) p=some (o,t)/\g.blk id=some b/\cs=[.pointer (some ⟨b,i* (g.ty id).size+o,none⟩)]
 |.mp id,cs=>g.K id/\ ∃b,g.blk id=some b/\cs=[.map (some b)]
 |.fn f l,cs=>∃m:List Value,cs=[JL f m]/\Z2 w g l m
 |.nilr p,cs=>cs=[.pointer none]\/p=false/\cs=[.nilFunc]\/p=false/\cs=[.map none]
 |.nils,cs=>cs=[.slice none 0 0]
 |.jk n,cs=>cs.length=n/\ ∀v∈cs,v.oneCell' =true
 |.nw id ver e k,cs=>g.K id/\ver<=g.ver id/\ ∃v,cs=[v]/\v.oneCell' =true/\(g.ver id=ver->v=g.row id e k)
 |.np id ver e k i p,cs=>g.K id/\ver<=g.ver id/\ ∃a,cs=[.pointer (some a)]/\(g.ver id=ver->∃b len cap o t,g.row id e k=.slice (some ⟨b,0,none⟩) len cap/\ZM (Db (g.ty id)) p=some (o,t)/\a=⟨b,i* (Db (g.ty id)).size+o,none⟩)
 |.op id i,cs=>g.K id/\ ∃b off len cap,g.slv id=.slice (some ⟨b,off,none⟩) len cap/\cs=[.pointer (some ⟨b,off+i,none⟩)]
def Z2(w:World)(g:Gh):Zl->List Value->Prop
 |.nil,cs=>cs=[]
 |.cons v l,cs=>∃h j,cs=h++j/\CV w g v h/\Z2 w g l j
end
theorem ZaT{w:World}{g:Gh}{p:Bool}{cs:List Value}(h:CV w g (.nilr p) cs):cs=[.pointer none]\/cs=[.nilFunc]\/cs=[.map none]:=by
 simp only[CV]at h;rcases h with h|⟨_,h⟩|⟨_,h⟩
 ·exact .inl h
 ·exact .inr (.inl h)
 ·exact .inr (.inr h)
theorem ZkK{w:World}{g:Gh}{cs:List Value}(h:CV w g (.nilr true) cs):cs=[.pointer none]:=by
 simp only[CV]at h;rcases h with h|⟨h,_⟩|⟨h,_⟩
 ·exact h
 ·cases h
 ·cases h
mutual
theorem CV.mono{w w' :World}{g g' :Gh}(u:Kf g.I w w')(j:g.Le g'):∀(v:AV) (cs:List Value),CV w g v cs->CV w' g' v cs
 |.d t x,cs,h=>Rd.mono u j.I t x cs h
 |.junk,_,_=>by simp [CV]
 |.tup _,_,h=>by simp [CV]at h
 |.agg l,cs,h=>by simp only[CV]at h⊢;exact Z2.mono u j l cs h
 |.dp t x,cs,h=>by
  simp only[CV]at h⊢;obtain⟨b,off,c,q,r,s,G⟩:=h
  exact⟨b,off,c,q,j.I _ r,s.mono (u _ r),Rd.mono u j.I t x c G⟩
 |.ptr id p,cs,h=>by
  simp only[CV]at h⊢;obtain⟨m,o,t,b,q,r,s⟩:=h
  exact⟨j.K _ m,o,t,b,by rw[j.ty _ m];exact q,by rw[j.blk _ m];exact r,s⟩
 |.vw id,cs,h=>by
  simp only[CV]at h⊢
  exact⟨j.K _ h.1,by rw[j.slv _ h.1];exact h.2⟩
 |.vs id lo n,cs,h=>by
  simp only[CV]at h⊢
  exact⟨j.K _ h.1,by rw[j.slv _ h.1,j.ty _ h.1];exact h.2⟩
 |.vp id i p,cs,h=>by
  simp only[CV]at h⊢;obtain⟨m,o,t,b,q,r,s⟩:=h
  exact⟨j.K _ m,o,t,b,by rw[j.ty _ m];exact q,by rw[j.blk _ m];exact r,by rw[j.ty _ m];exact s⟩
 |.mp id,cs,h=>by
  simp only[CV]at h⊢;obtain⟨m,b,q,r⟩:=h
  exact⟨j.K _ m,b,by rw[j.blk _ m];exact q,r⟩
 |.fn f l,cs,h=>by
  simp only[CV]at h⊢;obtain⟨D,q,r⟩:=h
  exact⟨D,q,Z2.mono u j l D r⟩
 |.nilr _,_,h=>by simpa only[CV] using h
 |.nils,_,h=>by simpa only[CV] using h
 |.jk _,_,h=>by simpa only[CV] using h
 |.nw id ver J k,cs,h=>by
  simp only[CV]at h⊢;obtain⟨m,z,v,q,r,s⟩:=h;have y:=j.ver _ m
  exact⟨j.K _ m,Vv z y,v,q,r,fun e=>by rw[j.row _ m (by omega)];exact s (by omega)⟩
 |.np id ver J k i p,cs,h=>by
  simp only[CV]at h⊢;obtain⟨m,z,a,q,s⟩:=h;have y:=j.ver _ m
  exact⟨j.K _ m,Vv z y,a,q,fun e=>by rw[j.row _ m (by omega),j.ty _ m];exact s (by omega)⟩
 |.op id i,cs,h=>by simp only[CV]at h⊢;exact⟨j.K _ h.1,by rw[j.slv _ h.1];exact h.2⟩
theorem Z2.mono{w w' :World}{g g' :Gh}(u:Kf g.I w w')(j:g.Le g'):∀(l:Zl) (cs:List Value),Z2 w g l cs->Z2 w' g' l cs
 |.nil,_,h=>by simpa only[Z2] using h
 |.cons v l,cs,h=>by simp only[Z2]at h⊢;obtain⟨A,C,q,r,s⟩:=h;exact⟨A,C,q,CV.mono u j v A r,Z2.mono u j l C s⟩
end
def AV.isAgg:AV->Bool
 |.d t _=>t.agg
 |.agg _=>true
 |_=>false
def Z8:Value->Bool
 |.agg _=>true
 |_=>false
theorem ZjO(f:FuncId)(b:List Value):Z8 (JL f b)=false:=by
 rcases ZaK f b with ⟨_,h⟩|⟨_,h⟩<;>rw[h]<;>rfl
def Ki(w:World)(g:Gh)(a:AV)(v:Value):Prop:=CV w g a v.cells.toList/\(a=.junk\/Z8 v=a.isAgg)
def Wt(w:World)(g:Gh):Zl->List Value->Prop
 |.nil,vs=>vs=[]
 |.cons a l,vs=>∃v r,vs=v::r/\Ki w g a v/\Wt w g l r
def VR(w:World)(g:Gh):AV->Value->Prop
 |.tup l,v=>∃vs:List Value,v=.tuple vs.toArray/\Wt w g l vs
 |a,v=>Ki w g a v
theorem Ki.mono{w w' :World}{g g' :Gh}(c:Kf g.I w w')(b:g.Le g'){a:AV}{v:Value}(h:Ki w g a v):Ki w' g' a v:=⟨CV.mono c b _ _ h.1,h.2⟩
theorem Wt.mono{w w' :World}{g g' :Gh}(c:Kf g.I w w')(b:g.Le g'):∀{l:Zl}{vs:List Value},Wt w g l vs->Wt w' g' l vs
 |.nil,_,h=>h
 |.cons _ _,_,h=>by obtain⟨v,r,d,e,f⟩:=h;exact⟨v,r,d,e.mono c b,f.mono c b⟩
theorem VR.mono{w w' :World}{g g' :Gh}(c:Kf g.I w w')(b:g.Le g'){a:AV}{v:Value}(h:VR w g a v):VR w' g' a v:=by
 cases a with
 |tup l=>obtain⟨vs,d,e⟩:=h;exact⟨vs,d,e.mono c b⟩
 |_=>exact Ki.mono c b h
theorem Hb{w:World}{g:Gh}{v:Value} :VR w g .junk v:=⟨by simp [CV],.inl rfl⟩
end Tr
end
section
namespace Tr
open Go
@[reducible] def ZH (tn tq lt lb:Ty):Type:=El tn×El tq×El lt×List (List (El lb)) ×List (El lb) ×List (El lb)
def WX(tn tq lt lb:Ty):Ty:=.prod tn (.prod tq (.prod lt (.prod (.sl (.sl (.pn lb))) (.prod (.sl (.pn lb)) (.prod (.sl (.pn lb)) .unit)))))
def XQ(tn tq lt lb:Ty):Ty:=.prod tn (.prod tq (.prod lt (.prod (.sl (.sl (.pt lb))) (.prod (.sl (.pt lb)) (.prod (.sl (.pt lb)) .unit)))))
def ZbY(tn tq lt:Ty){lb:Ty}(x:ZH tn tq lt lb):AV:=.agg (.cons (.d tn x.1) (.cons (.d tq x.2.1) (.cons (.d lt x.2.2.1) (.cons (.jk 1) (.cons (.jk 1) (.cons (.jk 1) .nil))))))
inductive KO where
 |var (t:Ty) (c:AV)
 |vec (t:Ty) (xs:List (El t))
 |map (kt vt:Ty) (m:List (El kt×El vt))
 |rows (t:Ty) (xs:List (List (El t))) (ver:Nat) (hole:Option Nat)
 |mrows (kt t:Ty) (m:List (El kt×List (El t))) (ver:Nat) (hole:Option (El kt))
 |rng (kt vt:Ty) (rest:List (El kt×El vt)) (cur:Option (El kt×El vt))
 |dat (t:Ty) (xs:List (El t))
 |bld (T e:TypeId) (bs:List UInt8)
 |vco (lb:Ty) (xs:List (El (.pn lb)))
 |fnd (tn tq lt lb:Ty) (x:ZH tn tq lt lb)
mutual
def AV.fits:AV->Ty->Bool
 |.d c _,t=>c==t
 |.agg l,t=>l.fits t
 |.jk n,t=>n==t.size
 |.junk,_=>false
 |.tup _,_=>false
 |.vw _,.sl _=>true
 |.vs _ _ _,.sl _=>true
 |.nw _ _ _ _,.sl _=>true
 |.np _ _ _ _ _ _,.ref=>true
 |.nils,.sl _=>true
 |.dp _ _,.ref=>true
 |.ptr _ _,.ref=>true
 |.vp _ _ _,.ref=>true
 |.mp _,.ref=>true
 |.fn _ _,.ref=>true
 |.nilr _,.ref=>true
 |.dp _ _,.pt _=>true
 |.dp _ _,.lk _ _=>true
 |.ptr _ _,.pt _=>true
 |.ptr _ _,.lk _ _=>true
 |.nilr _,.pt _=>true
 |.nilr _,.lk _ _=>true
 |_,_=>false
def Zl.fits:Zl->Ty->Bool
 |.nil,.unit=>true
 |.cons v l,.prod a b=>v.fits a&&l.fits b
 |_,_=>false
end
def K7(w:World)(I J:Nat->Prop)(t:Ty)(xs:List (El t))(d:Value):Prop:=
 (xs=[]/\d=.slice none 0 0)\/ ∃b cap cells e c,d=.slice (some ⟨b,0,none⟩) xs.length cap/\J b/\w.heap[b]? =some (.cells cells e (0,0))/\xs.length<=cap/\cap*t.size<=cells.size/\Fa (Rd w I t) xs c/\c.flatten<+:cells.toList
def YL(w:World)(I J:Nat->Prop)(lb:Ty)(xs:List (El (.pn lb)))(c:Value):Prop:=
 (xs=[]/\c=.slice none 0 0)\/ ∃b off cap cells e d,c=.slice (some ⟨b,off,none⟩) xs.length cap/\J b/\w.heap[b]? =some (.cells cells e (0,0))/\xs.length<=cap/\off+cap<=cells.size/\Fa (fun x v=>Rd w I (.pn lb) x [v]) xs d/\d<+:cells.toList.drop off
def K2:Value->Option Nat
 |.slice (some a) _ _=>some a.block
 |_=>none
structure RF {κ:Type} (w:World) (I J:Nat->Prop) (t:Ty) (top:Option Nat) (row:κ->Value) (c:κ->List (El t)->Prop) (hole:Option κ):Prop where
 rd:∀k x,c k x->hole≠some k->K7 w I J t x (row k)
 ds:∀k k' x x' b,c k x->c k' x' ->k≠k' ->hole≠some k->hole≠some k' ->K2 (row k)=some b->K2 (row k')≠some b
 tp:∀k x b,c k x->hole≠some k->K2 (row k)=some b->top≠some b
def Ix(es:Array MapEntry)(clock:Nat):Prop:=clock=es.size/\ ∀(i:Nat) (e:MapEntry),es[i]? =some e->e.born=i
def Bn(es:Array MapEntry)(clock:Nat):Prop:=(∀x∈es.toList,x.born<clock)/\(es.toList.map (·.born)).Nodup
theorem Bn.empty(c:Nat):Bn #[] c:=⟨by simp,by simp⟩
theorem Bn.push{es:Array MapEntry}{clock:Nat}(h:Bn es clock){e:MapEntry}(j:e.born=clock):Bn (es.push e) (clock+1):=by
 refine⟨fun x c=>?_,?_⟩
 ·rw[Vla]at c;rcases Vga.1 c with d|d
  ·exact Nat.lt_succ_of_lt (h.1 x d)
  grind
 ·rw[Vla,Vqa];refine Vma.2 ⟨h.2,by simp,fun a i b f=>?_⟩;simp at f;subst f;obtain⟨x,c,rfl⟩:=Vya.1 i;have:=h.1 x c;omega
theorem Bn.same{es es' :Array MapEntry}{clock:Nat}(h:Bn es clock)(c:es'.toList.map (·.born)=es.toList.map (·.born)):Bn es' clock:=by
 refine⟨fun x e=>?_,c▸h.2⟩;have:x.born∈es.toList.map (·.born):=by grind
 obtain⟨y,d,b⟩:=Vya.1 this;rw[<-b];exact h.1 y d
def Hl(es:Array MapEntry)(seen:Array Nat):List MapEntry:=es.toList.filter fun e=> !seen.contains e.born
def u8s(l:List UInt8):List Value:=l.map fun b=>Value.int .u8 b.toNat
def Zbo(w:World)(J:Nat->Prop)(T e:TypeId)(c:List UInt8)(b:Nat):Prop:=
 J b/\ ∃p row,(p=.pointer none\/p=.pointer (some ⟨b,0,none⟩))/\w.heap[b]? =some (.cells #[p,row] T (0,0))/\w.ownsRow 0 e 1 row c.length (u8s c)/\(∀k,row.ownBlock=some k->k≠b/\J k)/\(c=[]->row=.slice none 0 0)
theorem Zbo.mono{w w' :World}{J c:Nat->Prop}{T e:TypeId}{d:List UInt8}{b:Nat}(s:∀b,J b->c b)(u:∀b,J b->w'.heap[b]? =w.heap[b]?)(h:Zbo w J T e d b):Zbo w' c T e d b:=by
 obtain⟨j,p,row,k,x,f,m,i⟩:=h;refine⟨s _ j,p,row,k,by grind,⟨f.1,?_⟩,by grind,i⟩;rcases f.2 with y|⟨g,cap,cur,rfl,n,q,r⟩
 ·grind
 ·exact .inr ⟨g,cap,cur,rfl,n,(u _ (m g rfl).2).trans q,r⟩
def RL(w:World)(I J:Nat->Prop)(t:Ty)(b:List Value)(xs:List (List (El t))):Prop:=
 b.length=xs.length/\RF w I J t none (fun i:Nat=>b.getD i undef) (fun i x=>xs[i]? =some x) none
def JQ(w:World)(I J:Nat->Prop)(t:Ty)(xs:List (List (El t)))(v:Value):Prop:=
 ∃c,RL w I J t c xs/\((xs=[]/\v=.slice none 0 0)\/ ∃b cap cs e,J b/\(∀i x,xs[i]? =some x->K2 (c.getD i undef)≠some b)/\v=.slice (some ⟨b,0,none⟩) xs.length cap/\w.heap[b]? =some (.cells cs e (0,0))/\
  xs.length<=cap/\cap<=cs.size/\ ∀i,i<xs.length->cs[i]? =some (c.getD i undef))
def Kk{lb:Ty}(b:El lb->Nat)(y:El lb):El (.pn lb):=some (b y,y)
def Jz{tn tq lt lb:Ty}(x:ZH tn tq lt lb):List (El lb):=x.2.2.2.1.flatten++x.2.2.2.2.1++x.2.2.2.2.2
def XI{tn tq lt lb:Ty}(b:El lb->Nat)(x:ZH tn tq lt lb):Prop:= ∀y∈Jz x,∀c∈Jz x,b y=b c->y=c
def Dx(w:World)(I J:Nat->Prop)(tn tq lt lb:Ty)(x:ZH tn tq lt lb)(b:Nat):Prop:=
 J b/\ ∃(d:El lb->Nat) (h f c:Nat->Prop),XI d x/\(∀k,h k->J k/\k≠b/\ ¬f k/\ ¬c k)/\(∀k,f k->J k/\k≠b/\ ¬c k)/\(∀k,c k->J k/\k≠b)/\
   ∃cells e i j c3 m n p,w.heap[b]? =some (.cells cells e (0,0))/\cells.toList=i++(j++(c3++[m,n,p]))/\Rd w I tn x.1 i/\Rd w I tq x.2.1 j/\Rd w I lt x.2.2.1 c3/\
    JQ w I h (.pn lb) (x.2.2.2.1.map fun r=>r.map (Kk d)) m/\YL w I f lb (x.2.2.2.2.1.map (Kk d)) n/\K7 w I c (.pn lb) (x.2.2.2.2.2.map (Kk d)) p
def ORel(w:World)(g:Gh)(ow:Nat->Prop)(id:Nat):KO->Prop
 |.var t c=>g.ty id=t/\c.fits t=true/\ ∃b cs e,g.blk id=some b/\ow b/\w.heap[b]? =some (.cells cs e (0,0))/\cs.size=t.size/\CV w g c cs.toList
 |.vec t xs=>g.ty id=t/\((xs=[]/\g.blk id=none/\g.slv id=.slice none 0 0)\/
   ∃b cap cs e p,g.blk id=some b/\ow b/\g.slv id=.slice (some ⟨b,0,none⟩) xs.length cap/\w.heap[b]? =some (.cells cs e (0,0))/\xs.length<=cap/\cap*t.size<=cs.size/\
    Fa (Rd w g.I t) xs p/\p.flatten<+:cs.toList)
 |.map h q m=>∃b es clock,g.blk id=some b/\ow b/\w.heap[b]? =some (.map es clock)/\Bn es clock/\Fa (fun kv e=>Ki w g (.d h kv.1) e.key/\Ki w g (.d q kv.2) e.val) m es.toList
 |.rows t xs ver f=>g.ty id=.sl t/\g.ver id=ver/\RF w g.I ow t (g.blk id) (fun i:Nat=>g.row id (.int .i64) (i:Int)) (fun i x=>xs[i]? =some x) f/\
   ((xs=[]/\g.blk id=none/\g.slv id=.slice none 0 0)\/
     ∃b cap cs e,g.blk id=some b/\ow b/\g.slv id=.slice (some ⟨b,0,none⟩) xs.length cap/\w.heap[b]? =some (.cells cs e (0,0))/\xs.length<=cap/\cap<=cs.size/\ ∀i:Nat,i<xs.length->cs[i]? =some (g.row id (.int .i64) (i:Int)))
 |.mrows h t m ver f=>g.ty id=.sl t/\g.ver id=ver/\RF w g.I ow t (g.blk id) (g.row id h) (fun k x=>(k,x)∈m) f/\(m.map Ve).Nodup/\(∀k,k ∉ m.map Ve->g.row id h k=.slice none 0 0)/\
   ∃b es clock,g.blk id=some b/\ow b/\w.heap[b]? =some (.map es clock)/\Ix es clock/\Fa (fun kv e=>Ki w g (.d h kv.1) e.key/\e.val=g.row id h kv.1) m es.toList
 |.rng h q rest cur=>∃b r es clock since seen,g.ty id=.ref/\g.blk id=some b/\ow b/\ow r/\w.heap[b]? =some (.mapIter (some r) since seen clock)/\w.heap[r]? =some (.map es clock)/\
   ((∀x∈es.toList,x.born<since)/\since<=clock/\(es.toList.map (·.born)).Nodup)/\Fa (fun kv e=>Ki w g (.d h kv.1) e.key/\Ki w g (.d q kv.2) e.val) rest (Hl es seen)/\
   ∀kv,cur=some kv->∃e∈es.toList,∃j:Array Nat,seen=j.push e.born/\Ki w g (.d h kv.1) e.key/\Ki w g (.d q kv.2) e.val
 |.dat t xs=>g.ty id=t/\Rd w g.I (.sl t) xs [g.slv id]
 |.bld T e y=>∃b,g.blk id=some b/\Zbo w ow T e y b
 |.vco n xs=>g.ty id=.pn n/\YL w g.I ow n xs (g.slv id)
 |.fnd s u lt n x=>(g.ty id=WX s u lt n\/g.ty id=XQ s u lt n)/\ ∃b,g.blk id=some b/\Dx w g.I ow s u lt n x b
structure ZS where
 w0:World
 own0:Nat->Prop
 I0:Nat->Prop
 pl:Bool
abbrev AH:=Nat->Option KO
structure Ym (w' w:World):Prop where
 out:w'.output=w.output
 drawn:w.drawn<=w'.drawn
theorem Ym.rfl{w:World} :Ym w w:=⟨_root_.rfl,Vl _⟩
structure Yn (d:Bool) (w' w:World):Prop where
 out:w'.output=w.output
 drawn:d=true->w.drawn<=w'.drawn
theorem Yn.rfl{d:Bool}{w:World} :Yn d w w:=⟨_root_.rfl,by omega⟩
theorem Ym.trans{d:Bool}{a b c:World}(h:Ym a b)(k:Yn d b c):Yn d a c:=⟨h.out.trans k.out,fun e=>Vv (k.drawn e) h.drawn⟩
theorem Yn.trans{d:Bool}{a b c:World}(h:Yn d a b)(k:Yn d b c):Yn d a c:=⟨h.out.trans k.out,fun e=>Vv (k.drawn e) (h.drawn e)⟩
theorem Yn.weak{d e:Bool}{a b:World}(h:Yn d a b)(k:e=true->d=true):Yn e a b:=⟨h.out,fun x=>h.drawn (k x)⟩
structure RH (B:ZS) (H:AH) (w:World) (g:Gh) (ow:Nat->Nat->Prop):Prop where
 objs:∀id o,H id=some o->g.K id/\ORel w g (ow id) id o
 dist:∀id id' b,H id≠none->H id' ≠none->ow id b->ow id' b->id=id'
 sep:∀id b,H id≠none->ow id b->¬g.I b/\b<w.heap.size/\(B.own0 b\/B.w0.heap.size<=b)
 ilt:∀b,g.I b->b<w.heap.size
 inew:∀b,g.I b->B.I0 b\/B.own0 b\/B.w0.heap.size<=b
 os:w.os=B.w0.os
 tape:w.tape=B.w0.tape
 output:Yn B.pl w B.w0
 size:B.w0.heap.size<=w.heap.size
 kept:∀b,b<B.w0.heap.size->¬B.own0 b->w.heap[b]? =B.w0.heap[b]?
structure W2 (w w' :World):Prop where
 heap:w'.heap=w.heap
 os:w'.os=w.os
 tape:w'.tape=w.tape
 output:Ym w' w
theorem W2.refl(w:World):W2 w w:=⟨rfl,rfl,rfl,.rfl⟩
theorem W2.agree{w w' :World}(h:W2 w w')(I:Nat->Prop):Kf I w w' :=fun b _=>by rw[h.heap]
theorem K7.mono{w w' :World}{I i J j:Nat->Prop}{t:Ty}{xs:List (El t)}{d:Value}(z:Kf I w w')(s:∀b,I b->i b)(u:∀b,K2 d=some b->J b->j b)(y:∀b,K2 d=some b->J b->w'.heap[b]? =w.heap[b]?)(h:K7 w I J t xs d):K7 w' i j t xs d:=by
 rcases h with h|⟨b,cap,cells,e,f,rfl,k,m,n,p,q,r⟩
 ·exact .inl h
 ·exact .inr ⟨b,cap,cells,e,f,rfl,u b rfl k,(y b rfl k).trans m,n,p,q.mono fun x c A=>Rd.mono z s t x c A,r⟩
theorem Zgj{w:World}{I:Nat->Prop}{lb:Ty} :∀{l:List (El (.pn lb))}{css:List (List Value)},Fa (Rd w I (.pn lb)) l css->∃b,css.flatten=b/\Fa (fun x v=>Rd w I (.pn lb) x [v]) l b
 |[],[],_=>⟨[],rfl,trivial⟩
 |x::l,c::css,⟨d,e⟩=>by obtain⟨b,f,h⟩:=Zgj e;have i:=Rd.length _ _ _ d;obtain⟨v,rfl⟩:=List.length_eq_one_iff.1 (show c.length=1 from i);exact⟨v::b,by simp [f],d,h⟩
theorem YL.mono{w w' :World}{I d J f:Nat->Prop}{lb:Ty}{xs:List (El (.pn lb))}{c:Value}(y:Kf I w w')(q:∀b,I b->d b)(r:∀b,K2 c=some b->J b->f b)(s:∀b,K2 c=some b->J b->w'.heap[b]? =w.heap[b]?)(h:YL w I J lb xs c):YL w' d f lb xs c:=by
 rcases h with h|⟨b,off,cap,cells,e,u,rfl,i,j,k,m,n,p⟩
 ·exact .inl h
 ·exact .inr ⟨b,off,cap,cells,e,u,rfl,r b rfl i,(s b rfl i).trans j,k,m,n.mono fun x v z=>Rd.mono y q (.pn lb) x [v] z,p⟩
theorem RF.mono{κ:Type}{w w' :World}{I d J e:Nat->Prop}{t:Ty}{top:Option Nat}{row:κ->Value}{c:κ->List (El t)->Prop}{hole:Option κ}(m:Kf I w w')(j:∀b,I b->d b)(n:∀b,J b->e b)(p:∀b,J b->w'.heap[b]? =w.heap[b]?)
 (h:RF w I J t top row c hole):RF w' d e t top row c hole:=
 ⟨fun k x f i=>(h.rd k x f i).mono m j (by grind) (by grind),h.ds,h.tp⟩
theorem JQ.mono{w' w:World}{I c J d:Nat->Prop}{t:Ty}{xs:List (List (El t))}{v:Value}(m:Kf I w w')(f:∀b,I b->c b)(i:∀b,J b->d b)(j:∀b,J b->w'.heap[b]? =w.heap[b]?)(h:JQ w I J t xs v):JQ w' c d t xs v:=by
 obtain⟨k,e,n⟩:=h;refine⟨k,⟨e.1,e.2.mono m f i j⟩,?_⟩
 grind
theorem Dx.mono{w w' :World}{I y J z:Nat->Prop}{tn tq lt lb:Ty}{x:ZH tn tq lt lb}{b:Nat}(f:Kf I w w')(d:∀b,I b->y b)(i:∀b,J b->z b)(j:∀b,J b->w'.heap[b]? =w.heap[b]?)(h:Dx w I J tn tq lt lb x b):Dx w' y z tn tq lt lb x b:=by
 obtain⟨A,K,C,D,G,N,r,s,u,cells,e,L,M,c3,U,V,W,O,Q,R,S,m,n,p,q⟩:=h
 exact⟨i _ A,K,C,D,G,N,fun k c=>⟨i _ (r k c).1,(r k c).2⟩,fun k c=>⟨i _ (s k c).1,(s k c).2⟩,fun k c=>⟨i _ (u k c).1,(u k c).2⟩,cells,e,L,M,c3,U,V,W,(j _ A).trans O,Q,
  Rd.mono f d _ _ _ R,Rd.mono f d _ _ _ S,Rd.mono f d _ _ _ m,n.mono f d (fun _ h=>h) fun k c=>j k (r k c).1,p.mono f d (fun _ _ h=>h) fun k _ c=>j k (s k c).1,q.mono f d (fun _ _ h=>h) fun k _ c=>j k (u k c).1⟩
theorem ORel.mono{w w' :World}{g g' :Gh}{ow:Nat->Prop}{id:Nat}{o:KO}(k:Kf g.I w w')(d:g.Le g')(f:g.K id)(s:g'.ver id=g.ver id)(A:∀b,ow b->w'.heap[b]? =w.heap[b]?)(h:ORel w g ow id o):ORel w' g' ow id o:=by
 cases o with
 |var t c=>
  obtain⟨n,X,b,cs,e,i,p,j,q,y⟩:=h
  exact⟨(d.ty _ f).trans n,X,b,cs,e,(d.blk _ f).trans i,p,by grind,q,y.mono k d⟩
 |vec t xs=>
  obtain⟨n,h⟩:=h;refine⟨(d.ty _ f).trans n,?_⟩;rcases h with ⟨i,j,q⟩|⟨b,cap,cs,e,J,i,p,j,q,y,D,z,G⟩
  ·exact .inl ⟨i,(d.blk _ f).trans j,(d.slv _ f).trans q⟩
  ·exact .inr ⟨b,cap,cs,e,J,(d.blk _ f).trans i,p,(d.slv _ f).trans j,by grind,y,D,z.mono fun x c r=>Rd.mono k d.I t x c r,G⟩
 |map V vt m=>
  obtain⟨b,es,clock,i,p,j,R,q⟩:=h
  exact⟨b,es,clock,(d.blk _ f).trans i,p,by grind,R,q.mono fun x e r=>⟨r.1.mono k d,r.2.mono k d⟩⟩
 |rows t xs ver C=>
  obtain⟨n,i,j,h⟩:=h;refine⟨(d.ty _ f).trans n,s.trans i,?_,?_⟩
  ·rw[d.row _ f s,d.blk _ f];exact j.mono k d.I (by simp) A
  ·rw[d.row _ f s,d.blk _ f,d.slv _ f]
   grind
 |mrows V t m ver C=>
  obtain⟨n,i,j,q,y,b,es,clock,D,z,G,S,O⟩:=h;refine⟨(d.ty _ f).trans n,s.trans i,?_,q,?_,b,es,clock,(d.blk _ f).trans D,z,by grind,S,?_⟩
  ·rw[d.row _ f s,d.blk _ f];exact j.mono k d.I (by simp) A
  ·rw[d.row _ f s];omega
  ·rw[d.row _ f s];exact O.mono fun x e r=>⟨r.1.mono k d,r.2⟩
 |rng V vt rest cur=>
  obtain⟨b,Z,es,clock,since,seen,n,i,j,q,y,D,z,G,O⟩:=h;refine⟨b,Z,es,clock,since,seen,(d.ty _ f).trans n,(d.blk _ f).trans i,j,q,by grind,by grind,z,G.mono fun x e r=>⟨r.1.mono k d,r.2.mono k d⟩,fun kv U=>?_⟩;obtain⟨e,W,u,L,M,N⟩:=O kv U
  exact⟨e,W,u,L,M.mono k d,N.mono k d⟩
 |dat t xs=>
  exact⟨(d.ty _ f).trans h.1,by rw[d.slv _ f];exact Rd.mono k d.I _ _ _ h.2⟩
 |bld T e bs=>
  obtain⟨b,i,j⟩:=h
  exact⟨b,(d.blk _ f).trans i,j.mono (by simp) A⟩
 |vco Y xs=>
  exact⟨(d.ty _ f).trans h.1,by rw[d.slv _ f];exact h.2.mono k d.I (fun _ _ h=>h) fun b _ Q=>A b Q⟩
 |fnd tn tq lt Y x=>
  obtain⟨n,b,i,j⟩:=h;exact⟨n.imp (d.ty _ f).trans (d.ty _ f).trans,b,(d.blk _ f).trans i,j.mono k d.I (fun _ h=>h) A⟩
theorem RH.same{B:ZS}{H:AH}{w w' :World}{g:Gh}{ow:Nat->Nat->Prop}(h:RH B H w g ow)(c:W2 w w'):RH B H w' g ow where
 objs:=fun id o f=>⟨(h.objs id o f).1,(h.objs id o f).2.mono (c.agree _) (.refl g) (h.objs id o f).1 rfl fun b _=>by rw[c.heap]⟩
 dist:=h.dist
 sep:=fun id b d e=>by rw[c.heap];exact h.sep id b d e
 ilt:=fun b i=>by rw[c.heap];exact h.ilt b i
 inew:=h.inew
 os:=c.os.trans h.os
 tape:=c.tape.trans h.tape
 output:=c.output.trans h.output
 size:=by rw[c.heap];exact h.size
 kept:=fun b d e=>by rw[c.heap];exact h.kept b d e
def ZO(H:AH)(id:Nat)(o:Option KO):AH:=fun k=>bif Vc k id then o else H k
theorem Xj{H:AH}{id:Nat}{o:Option KO} :ZO H id o id=o:=by simp [ZO]
theorem Ko{H:AH}{id k:Nat}{o:Option KO}(h:k≠id):ZO H id o k=H k:=by
 have:Vc k id=false:=by
  cases b:Vc k id
  all_goals simp_all
 simp [ZO,this]
theorem Yh{H:AH}{id k:Nat}(h:ZO H id none k≠none):k≠id/\H k≠none:=by
 by_cases b:k=id
 ·subst b;exact absurd Xj h
 ·exact⟨b,by rwa [Ko b]at h⟩
theorem RH.drop{B:ZS}{H:AH}{w:World}{g:Gh}{ow:Nat->Nat->Prop}(h:RH B H w g ow)(id:Nat):RH B (ZO H id none) w g ow where
 objs:=fun k o d=>by have:=(Yh (H:=H) (id:=id) (k:=k) (by grind)).1;rw[Ko this]at d;exact h.objs k o d
 dist:=fun k f b c e=>h.dist k f b (Yh c).2 (Yh e).2
 sep:=fun k b c=>h.sep k b (Yh c).2
 ilt:=h.ilt
 inew:=h.inew
 os:=h.os
 tape:=h.tape
 output:=h.output
 size:=h.size
 kept:=h.kept
def Gh.add(g:Gh)(id:Nat)(t:Ty)(b:Option Nat)(v:Value)(r:(c:Ty)->El c->Value:=fun _ _=>.slice none 0 0):Gh where
 I:=g.I
 K:=fun k=>k=id\/g.K k
 ty:=fun k=>if k=id then t else g.ty k
 blk:=fun k=>if k=id then b else g.blk k
 slv:=fun k=>if k=id then v else g.slv k
 ver:=fun k=>if k=id then 0 else g.ver k
 row:=fun k=>if k=id then r else g.row k
theorem Gh.le_add{g:Gh}{id:Nat}(h:¬g.K id)(t:Ty)(b:Option Nat)(v:Value)(r:(d:Ty)->El d->Value:=fun _ _=>.slice none 0 0):g.Le (g.add id t b v r) where
 I:=fun _ h=>h
 K:=fun _ h=>.inr h
 ty:=fun k c=>Zf (by grind)
 blk:=fun k c=>Zf (by grind)
 slv:=fun k c=>Zf (by grind)
 ver:=fun k c=>Nat.le_of_eq (Zf (by grind)).symm
 row:=fun k c _=>Zf (by grind)
def JU(ow:Nat->Nat->Prop)(id:Nat)(J:Nat->Prop):Nat->Nat->Prop:=fun k b=>if k=id then J b else ow k b
theorem JI{ow:Nat->Nat->Prop}{id:Nat}{J:Nat->Prop} :JU ow id J id=J:=by funext b;simp [JU]
theorem WQ{ow:Nat->Nat->Prop}{id k:Nat}{J:Nat->Prop}(h:k≠id):JU ow id J k=ow k:=by funext b;simp [JU,h]
theorem RH.add{B:ZS}{H:AH}{w w' :World}{g:Gh}{ow:Nat->Nat->Prop}(h:RH B H w g ow){id:Nat}(G:¬g.K id){t:Ty}{b:Option Nat}{v:Value}{r:(N:Ty)->El N->Value}{o:KO}{J:Nat->Prop}
 (e:∀k,k<w.heap.size->w'.heap[k]? =w.heap[k]?) (M:w.heap.size<=w'.heap.size) (C:w'.os=w.os) (s:w'.tape=w.tape) (u:Ym w' w)
 (A:∀k,J k->¬g.I k/\k<w'.heap.size/\(B.own0 k\/B.w0.heap.size<=k)/\ ∀x,H x≠none->¬ow x k)
 (L:ORel w' (g.add id t b v r) J id o):RH B (ZO H id (some o)) w' (g.add id t b v r) (JU ow id J) where
 objs:=fun k O m=>by
  by_cases c:k=id
  ·subst c;rw[Xj]at m;cases m;rw[JI];exact⟨.inl rfl,L⟩
  ·rw[Ko c]at m;obtain⟨j,f⟩:=h.objs k O m;rw[WQ c];refine⟨.inr j,f.mono (fun b A=>e b (h.ilt b A)) (Gh.le_add G t b v r) j (Zf c) fun i n=>e i ?_⟩;exact(h.sep k i (by grind) n).2.1
 dist:=fun k D i j f y z=>by
  by_cases c:k=id<;>by_cases d:D=id
  ·omega
  ·subst c;rw[Ko d]at f;rw[JI]at y;rw[WQ d]at z
   grind
  ·subst d;rw[Ko c]at j;rw[JI]at z;rw[WQ c]at y
   grind
  ·rw[Ko c]at j;rw[Ko d]at f;rw[WQ c]at y;rw[WQ d]at z;exact h.dist k D i j f y z
 sep:=fun k i j f=>by
  by_cases c:k=id
  ·subst c;rw[JI]at f;obtain⟨p,q,r,_⟩:=A _ f;exact⟨p,q,r⟩
  ·rw[Ko c]at j;rw[WQ c]at f;obtain⟨p,q,r⟩:=h.sep k i j f;exact⟨p,by omega,r⟩
 ilt:=fun i n=>by have:=h.ilt i n;omega
 inew:=h.inew
 os:=C.trans h.os
 tape:=s.trans h.tape
 output:=u.trans h.output
 size:=by have:=h.size;omega
 kept:=fun i j f=>(e i (by have:=h.size;omega)).trans (h.kept i j f)
theorem RH.write{B:ZS}{H:AH}{w w' :World}{g:Gh}{ow:Nat->Nat->Prop}(h:RH B H w g ow){id b:Nat}{z:KO}(s:H id≠none)(A:ow id b)
 (d:∀k,k≠b->w'.heap[k]? =w.heap[k]?) (q:w'.heap.size=w.heap.size) (y:w'.os=w.os) (r:w'.tape=w.tape) (u:Ym w' w)
 (K:ORel w' g (ow id) id z):RH B (ZO H id (some z)) w' g ow:=by
 have D:=h.sep id b s A
 have c:∀k,ZO H id (some z) k≠none->H k≠none:=by
  intro k C;by_cases e:k=id
  ·grind
  ·rwa [Ko e]at C
 have x:Kf g.I w w' :=fun k C=>by grind
 exact {
  objs:=fun k o i=>by
   by_cases p:k=id
   ·subst p;rw[Xj]at i;cases i
    cases J:H k with
    |none=>grind
    |some o=>exact⟨(h.objs k o J).1,K⟩
   ·rw[Ko p]at i;obtain⟨j,m⟩:=h.objs k o i;refine⟨j,m.mono x (.refl g) j rfl fun f n=>d f fun e=>p ?_⟩;exact h.dist k id b (by grind) s (e▸n) A
  dist:=fun k G f j m=>h.dist k G f (c k j) (c G m)
  sep:=fun k f j m=>by rw[q];exact h.sep k f (c k j) m
  ilt:=fun f n=>by rw[q];exact h.ilt f n
  inew:=h.inew
  os:=y.trans h.os
  tape:=r.trans h.tape
  output:=u.trans h.output
  size:=by rw[q];exact h.size
  kept:=fun f j m=>by rw[d f (by grind)];exact h.kept f j m}
theorem RH.putDat{B:ZS}{H:AH}{w:World}{g:Gh}{ow:Nat->Nat->Prop}(h:RH B H w g ow){id:Nat}{t:Ty}{xs:List (El t)}(p:g.K id)(r:g.ty id=t)(q:Rd w g.I (.sl t) xs [g.slv id]):
 RH B (ZO H id (some (.dat t xs))) w g (JU ow id fun _=>False) where
 objs:=fun k o i=>by
  by_cases c:k=id
  ·subst c;rw[Xj]at i;cases i;exact⟨p,r,q⟩
  ·rw[Ko c]at i;rw[WQ c];exact h.objs k o i
 dist:=fun k n b f e j m=>by
  by_cases c:k=id
  ·subst c;rw[JI]at j;grind
  ·by_cases d:n=id
   ·subst d;rw[JI]at m;grind
   ·rw[Ko c]at f;rw[Ko d]at e;rw[WQ c]at j;rw[WQ d]at m;exact h.dist k n b f e j m
 sep:=fun k b f e=>by
  by_cases c:k=id
  ·subst c;rw[JI]at e;grind
  ·rw[Ko c]at f;rw[WQ c]at e;exact h.sep k b f e
 ilt:=h.ilt
 inew:=h.inew
 os:=h.os
 tape:=h.tape
 output:=h.output
 size:=h.size
 kept:=h.kept
def Gh.grow(g:Gh)(J:Nat->Prop):Gh:= {g with I:=fun b=>g.I b\/J b}
theorem Gh.le_grow(g:Gh)(J:Nat->Prop):g.Le (g.grow J):=⟨fun _ h=>.inl h,fun _ h=>h,fun _ _=>rfl,fun _ _=>rfl,fun _ _=>rfl,fun _ _=>Vl _,fun _ _ _=>rfl⟩
theorem RH.grow{B:ZS}{H:AH}{w:World}{g:Gh}{ow:Nat->Nat->Prop}(h:RH B H w g ow){J:Nat->Prop}(j:∀b,J b->b<w.heap.size/\(B.I0 b\/B.own0 b\/B.w0.heap.size<=b)/\ ∀id,H id≠none->¬ow id b):RH B H w (g.grow J) ow where
 objs:=fun id o e=>⟨(h.objs id o e).1,(h.objs id o e).2.mono (fun _ _=>rfl) (g.le_grow J) (h.objs id o e).1 rfl (by simp)⟩
 dist:=h.dist
 sep:=fun id b f i=>⟨fun d=>by
  rcases d with d|d
  ·exact(h.sep id b f i).1 d
  grind,(h.sep id b f i).2⟩
 ilt:=fun b c=>by
  rcases c with c|c
  ·exact h.ilt b c
  grind
 inew:=fun b c=>by
  rcases c with c|c
  ·exact h.inew b c
  grind
 os:=h.os
 tape:=h.tape
 output:=h.output
 size:=h.size
 kept:=h.kept
theorem ZmA{w:World}{g:Gh}{ow:Nat->Prop}{id:Nat}{t:Ty}{xs:List (El t)}(h:ORel w g ow id (.vec t xs)){I:Nat->Prop}(s:∀b,g.I b->I b)(u:∀b,ow b->I b):
 Rd w I (.sl t) xs [g.slv id]:=by
 obtain⟨C,A⟩:=h;rcases A with ⟨rfl,y,k⟩|⟨b,cap,cs,e,d,y,i,k,z,n,G,p,q⟩
 ·rw[k];exact⟨none,0,[],rfl,trivial,by simp,Vl _⟩
 ·rw[k];refine⟨some ⟨b,0,none⟩,cap,d,rfl,p.mono fun x c D=>Rd.mono (fun _ _=>rfl) s t x c D,fun _=>⟨b,0,rfl,u b i,?_⟩,n⟩;intro j J;obtain⟨r,K⟩:=q;have m:d.flatten.length<=cs.toList.length:=by grind
  simp only[Vx,z,Vr,Vf,if_false,Vea];have f:j<cs.size:=by grind
  rw[Vz f];congr 1;have:cs.toList[j]'(by omega)=d.flatten[j]:=by grind
  grind
theorem K7.data{w:World}{I J K:Nat->Prop}{t:Ty}{xs:List (El t)}{k:Value}(h:K7 w I J t xs k)(s:∀b,I b->K b)(u:∀b,J b->K b):Rd w K (.sl t) xs [k]:=by
 rcases h with ⟨rfl,rfl⟩|⟨b,cap,cs,e,d,rfl,i,y,n,A,p,q⟩
 ·exact⟨none,0,[],rfl,trivial,by simp,Vl _⟩
 ·refine⟨some ⟨b,0,none⟩,cap,d,rfl,p.mono fun x c z=>Rd.mono (fun _ _=>rfl) s t x c z,fun _=>⟨b,0,rfl,u b i,?_⟩,n⟩;intro j C;obtain⟨r,D⟩:=q;have m:d.flatten.length<=cs.toList.length:=by grind
  simp only[Vx,y,Vr,Vf,if_false,Vea];have f:j<cs.size:=by grind
  rw[Vz f];congr 1;have:cs.toList[j]'(by omega)=d.flatten[j]:=by grind
  grind
theorem ZlH{w:World}{g:Gh}{ow:Nat->Prop}{id:Nat}{t:Ty}{xs:List (List (El t))}{v:Nat}(h:ORel w g ow id (.rows t xs v none)){I:Nat->Prop}(q:∀b,g.I b->I b)(k:∀b,ow b->I b):
 Rd w I (.sl (.sl t)) xs [g.slv id]:=by
 obtain⟨_,_,d,A⟩:=h;rcases A with ⟨rfl,r,f⟩|⟨b,cap,cs,e,r,c,f,s,p,D,G⟩
 ·rw[f];exact⟨none,0,[],rfl,trivial,by simp,Vl _⟩
 ·rw[f];refine⟨some ⟨b,0,none⟩,cap,(Vp xs.length).map fun i:Nat=>[g.row id (.int .i64) (i:Int)],rfl,?_,fun _=>⟨b,0,rfl,k b c,?_⟩,p⟩
  ·have key:∀(n:Nat) (l:List (List (El t))),(∀i x,l[i]? =some x->Rd w I (.sl t) x [g.row id (.int .i64) ((n+i:Nat):Int)])->Fa (Rd w I (.sl t)) l ((List.range' n l.length).map fun i:Nat=>[g.row id (.int .i64) (i:Int)]):=by
    intro n l
    induction l generalizing n with
    |nil=>intro _;trivial
    |cons x l m=>
     intro h;refine⟨by simpa using h 0 x rfl,?_⟩
     have:=m (n+1) fun i y K=>by
      have:=h (i+1) y (by grind)
      grind
     omega
   have:=key 0 xs fun i x C=>by rw[Vea];exact(d.rd i x C (by simp)).data q k
   simpa [List.range_eq_range'] using this
  ·intro j J
   have u:((Vp xs.length).map fun i:Nat=>[g.row id (.int .i64) (i:Int)]).flatten=(Vp xs.length).map fun i:Nat=>g.row id (.int .i64) (i:Int):=by
    generalize xs.length=n
    induction n with
    |zero=>rfl
    |succ n m=>rw[List.range_succ];grind
   have z:j<xs.length:=by grind
   simp only[Vx,s,Vr,Vf,if_false,Vea]
   grind
end Tr
end
section
namespace Tr
open Go
inductive Zq (α:Type):Type 1 where
 |ret (a:α)
 |fail
 |getH (id:Nat) (k:Option KO->Zq α)
 |opt {β:Type} (o:Option β) (k:β->Zq α)
 |bool (b:Bool) (k:Bool->Zq α)
def Zq.bind{α β:Type} :Zq α->(α->Zq β)->Zq β
 |.ret a,f=>f a
 |.fail,_=>.fail
 |.getH id k,f=>.getH id fun o=>(k o).bind f
 |.opt o k,f=>.opt o fun b=>(k b).bind f
 |.bool b k,f=>.bool b fun c=>(k c).bind f
def Zq.runK{α ρ:Type}(H:AH):Zq α->List Nat->(α->List Nat->Option ρ)->Option ρ
 |.ret a,l,k=>k a l
 |.fail,_,_=>none
 |.getH id f,l,k=>(f (H id)).runK H (id::l) k
 |.opt o f,l,k=>o.bind fun b=>(f b).runK H l k
 |.bool b f,l,k=>bif b then(f true).runK H l k else(f false).runK H l k
def Zq.run{α:Type}(H:AH):Zq α->List Nat->Option (α×List Nat)
 |.ret a,l=>some (a,l)
 |.fail,_=>none
 |.getH id f,l=>(f (H id)).run H (id::l)
 |.opt o f,l=>o.bind fun b=>(f b).run H l
 |.bool b f,l=>(f b).run H l
theorem Zq.runK_eq{α ρ:Type}(H:AH)(k:α->List Nat->Option ρ)(a:Zq α)(l:List Nat):a.runK H l k=(a.run H l).bind fun r=>k r.1 r.2:=by
 induction a generalizing l with
 |ret a=>rfl
 |fail=>rfl
 |getH id f c=>exact c _ _
 |opt o f c=>
  cases o with
  |none=>rfl
  |some b=>exact c _ _
 |bool b f c=>cases b<;>exact c _ _
theorem Zq.run_bind{α β:Type}(H:AH)(f:α->Zq β)(a:Zq α)(l:List Nat):(a.bind f).run H l=(a.run H l).bind fun r=>(f r.1).run H r.2:=by
 induction a generalizing l with
 |ret a=>rfl
 |fail=>rfl
 |getH id k c=>exact c _ _
 |opt o k c=>
  cases o with
  |none=>rfl
  |some b=>exact c _ _
 |bool b k c=>exact c _ _
theorem Zq.run_local{α:Type}{H H' :AH}(a:Zq α)(l:List Nat)(r:α)(l' :List Nat)(h:a.run H l=some (r,l')):
 ∃m,l' =m++l/\((∀id∈m,H' id=H id)->a.run H' l=some (r,l')):=by
 induction a generalizing l with
 |ret a=>
  simp only[Zq.run,Option.some.injEq,Vd]at h
  exact⟨[],by simp [h.2],fun _=>by simp [Zq.run,h.1,h.2]⟩
 |fail=>simp [Zq.run]at h
 |getH id k c=>
  simp only[Zq.run]at h;obtain⟨m,e,f⟩:=c _ _ h;refine⟨m++[id],by simp [e],fun d=>?_⟩;simp only[Zq.run];rw[d id (by simp)]
  exact f fun i j=>d i (by simp [j])
 |opt o k c=>
  cases o with
  |none=>simp [Zq.run]at h
  |some b=>
   simp only[Zq.run,Za]at h⊢
   exact c _ _ h
 |bool b k c=>
  simp only[Zq.run]at h⊢;exact c _ _ h
def Kl(t b:Ty)(x:El t):Option (El b):=if h:t=b then some (h▸x) else none
def ZA(i:Int)(n:Nat):Option Nat:=if 0<=i/\i<n then some i.toNat else none
def idx{α:Type}(xs:List α)(i:Int):Option α:=if 0<=i then xs[i.toNat]? else none
def Zy(b:Bool):Option Unit:=bif b then some () else none
abbrev DV:=(t:Ty) ×El t
def X8:(t:Ty)->El t->List Nat->Zq DV
 |t,x,[]=>.ret ⟨t,x⟩
 |.prod a b,x,i::p=>match i with
  |0=>X8 a x.1 p
  |n+1=>X8 b x.2 (n::p)
 |.arr _ t,x,i::p=>.opt x[i]? fun y=>X8 t y p
 |_,_,_::_=>.fail
def J4:(t:Ty)->El t->List Nat->DV->Zq (El t)
 |t,_,[],y=>.opt (Kl y.1 t y.2) .ret
 |.prod a b,x,i::p,y=>match i with
  |0=>(J4 a x.1 p y).bind fun z=>.ret (z,x.2)
  |n+1=>(J4 b x.2 (n::p) y).bind fun z=>.ret (x.1,z)
 |.arr _ t,x,i::p,y=>.opt x[i]? fun e=>(J4 t e p y).bind fun z=>.ret (x.set i z)
 |_,_,_::_,_=>.fail
def X4:(t:Ty)->El t->Zl
 |.prod a b,x=>.cons (.d a x.1) (X4 b x.2)
 |_,_=>.nil
mutual
def HF:AV->List Nat->Zq AV
 |v,[]=>.ret v
 |.d t x,p=>(X8 t x p).bind fun y=>.ret (.d y.1 y.2)
 |.agg l,n::p=>ZaM l n p
 |_,_::_=>.fail
def ZaM:Zl->Nat->List Nat->Zq AV
 |.cons v _,0,p=>HF v p
 |.cons _ l,n+1,p=>ZaM l n p
 |.nil,_,_=>.fail
end
def AV.dv? :AV->Option DV
 |.d t x=>some ⟨t,x⟩
 |_=>none
def YX:Ty->Zl->Nat->List Nat->AV->Zq Zl
 |.prod a _,.cons u l,0,p,v=>(match p,u with
  |[],_=>bif v.fits a then .ret (.cons v l) else .fail
  |p,.d t x=>(match v with
   |.d c y=>(J4 t x p ⟨c,y⟩).bind fun z=>.ret (.cons (.d t z) l)
   |_=>.fail)
  |_,_=>.fail)
 |.prod _ b,.cons u l,n+1,p,v=>(YX b l n p v).bind fun m=>.ret (.cons u m)
 |_,_,_,_,_=>.fail
def Do(t:Ty)(c:AV)(p:List Nat)(v:AV):Zq AV:=
 match p with
 |[]=>bif v.fits t then .ret v else .fail
 |n::q=>match c with
  |.agg l=>(YX t l n q v).bind fun m=>.ret (.agg m)
  |.d b x=>(match v with
   |.d e y=>(J4 b x (n::q) ⟨e,y⟩).bind fun z=>.ret (.d b z)
   |v=>bif (X4 b x).fits t then(YX t (X4 b x) n q v).bind fun l=>.ret (.agg l) else .fail)
  |_=>.fail
end Tr
end
section
namespace Tr
open Go
noncomputable section
def Ty.dep:Ty->Nat
 |.prod a b=>max (a.dep+1) b.dep
 |.arr _ t=>t.dep+1
 |.sl t=>t.dep+1
 |_=>1
def eqEl:(t:Ty)->El t->El t->Option Bool
 |.int _,x,y=>some (decide (x=y))
 |.bool,x,y=>some (x==y)
 |.str,x,y=>some (decide (x=y))
 |.unit,_,_=>some true
 |.prod a .unit,x,y=>eqEl a x.1 y.1
 |.prod a b,x,y=>(eqEl a x.1 y.1).bind fun p=>(eqEl b x.2 y.2).bind fun q=>some (p&&q)
 |.arr _ t,x,y=>(eqs (eqEl t) x y)
 |_,_,_=>none
where eqs {α:Type} (f:α->α->Option Bool):List α->List α->Option Bool
 |[],[]=>some true
 |a::l,b::m=>(f a b).bind fun p=>(eqs f l m).bind fun q=>some (p&&q)
 |_,_=>none
def ZK{α β:Type}(eq:α->α->Bool)(k:α):List (α×β)->Option β
 |[]=>none
 |e::l=>bif eq k e.1 then some e.2 else ZK eq k l
def G2{α β:Type}(eq:α->α->Bool)(k:α):List (α×β)->Nat
 |[]=>0
 |e::l=>bif eq k e.1 then 0 else G2 eq k l+1
def Kh{α β:Type}(eq:α->α->Bool)(k:α)(v:β):List (α×β)->List (α×β)
 |[]=>[(k,v)]
 |e::l=>bif eq k e.1 then(k,v)::l else e::Kh eq k v l
def Zj(t:Ty)(x y:El t):Bool:=(eqEl t x y).getD false
def Ty.key:Ty->Bool
 |.int _=>true
 |.bool=>true
 |.str=>true
 |.unit=>true
 |.prod a b=>a.key&&b.key
 |.arr _ t=>t.key
 |_=>false
def Ty.keyOk(t:Ty):Bool:=t.key&&Vw t.dep 100
mutual
inductive Pat where
 |pd (t:Ty)
 |own (t:Ty) (keep:Bool)
 |var (t:Ty) (p:Pat)
 |ro (t:Ty)
 |map (b c:Ty)
 |rows (t:Ty) (keep:Bool)
 |mrows (b t:Ty)
 |it (b c:Ty)
 |bld (T e:TypeId) (keep:Bool)
 |fnd (tn tq lt lb:Ty)
 |owo (lb:Ty)
 |agg (l:Pats)
 |fn (f:FuncId) (l:Pats)
 |nilr
 |nils
 |any
inductive Pats where
 |nil
 |cons (p:Pat) (l:Pats)
end
mutual
@[reducible] def KP:Pat->Type
  |.pd t=>El t
  |.own t _=>List (El t)
  |.var _ p=>KP p
  |.ro t=>El t
  |.map b c=>List (El b×El c)
  |.rows t _=>List (List (El t))
  |.mrows b t=>List (El b×List (El t))
  |.it b c=>List (El b×El c)
  |.bld _ _ _=>List UInt8
  |.fnd tn tq lt lb=>ZH tn tq lt lb
  |.owo lb=>List (El (.pn lb))
  |.agg l=>Kn l
  |.fn _ l=>Kn l
  |.nilr=>Unit
  |.nils=>Unit
  |.any=>Unit
@[reducible] def Kn:Pats->Type
  |.nil=>Unit
  |.cons p l=>KP p×Kn l
end
mutual
@[reducible] def Hv:Pat->Type
  |.own t true=>List (El t)
  |.var _ p=>KP p
  |.map b c=>List (El b×El c)
  |.rows t true=>List (List (El t))
  |.mrows b t=>List (El b×List (El t))
  |.bld _ _ true=>List UInt8
  |.fnd tn tq lt lb=>ZH tn tq lt lb
  |.agg l=>KY l
  |.fn _ l=>KY l
  |_=>Unit
@[reducible] def KY:Pats->Type
  |.nil=>Unit
  |.cons p l=>Hv p×KY l
end
def XZ(id ver:Nat)(c:Ty)(k:El c):Zq ((t:Ty) ×List (El t)):=
 .getH id fun
  |some (.rows t xs v none)=>bif Vc v ver then .opt (Kl c (.int .i64) k) fun i=>.opt (idx xs i) fun x=>.ret ⟨t,x⟩ else .fail
  |some (.mrows b t m v none)=>bif Vc v ver&&b.keyOk then .opt (Kl c b k) fun d=>.ret ⟨t,(ZK (Zj b) d m).getD []⟩ else .fail
  |_=>.fail
abbrev RU(a b:Ty):Ty:=.prod a (.prod (.lk a b) b)
mutual
def Ke:(t:Ty)->AV->Zq (El t×List Nat)
 |t,.d c x=>.opt (Kl c t x) fun y=>.ret (y,[])
 |.sl _,.nils=>.ret ([],[])
 |.sl t,.vw id=>.getH id fun
  |some (.vec c xs)=>.opt (Kl (.sl c) (.sl t) xs) fun y=>.ret (y,[id])
  |some (.rows c xs _ none)=>.opt (Kl (.sl (.sl c)) (.sl t) xs) fun y=>.ret (y,[id])
  |some (.dat c xs)=>.opt (Kl (.sl c) (.sl t) xs) fun y=>.ret (y,[])
  |_=>.fail
 |.sl t,.nw id ver e k=>(XZ id ver e k).bind fun r=>.opt (Kl (.sl r.1) (.sl t) r.2) fun y=>.ret (y,[id])
 |.sl t,.vs id lo n=>.getH id fun
  |some (.vec c xs)=>.opt (Kl (.sl c) (.sl t) xs) fun y=>.ret ((y.drop lo).take n,[id])
  |_=>.fail
 |t,.agg l=>XM t l
 |.pt _,.nilr p=>bif p then .ret (none,[]) else .fail
 |.pt t,.ptr id p=>bif p.isEmpty then .getH id fun
  |some (.var _ (.d c x))=>.opt (Kl c t x) fun y=>.ret (some y,[id])
  |_=>.fail else .fail
 |.lk _ _,.nilr p=>bif p then .ret ([],[]) else .fail
 |.lk a b,.dp c x=>.opt (Kl c (RU a b) x) fun y=>.ret ((y.1,y.2.2)::y.2.1,[])
 |.lk a b,.ptr id p=>bif p.isEmpty then .getH id fun
  |some (.var _ (.d c x))=>.opt (Kl c (RU a b) x) fun y=>.ret ((y.1,y.2.2)::y.2.1,[id])
  |_=>.fail else .fail
 |.pn _,.nilr p=>bif p then .ret (none,[]) else .fail
 |_,_=>.fail
def XM:(t:Ty)->Zl->Zq (El t×List Nat)
 |.unit,.nil=>.ret ((),[])
 |.prod a b,.cons v l=>(Ke a v).bind fun x=>(XM b l).bind fun y=>.ret ((x.1,y.1),x.2++y.2)
 |_,_=>.fail
end
def Zde(l:List Int):List UInt8:=l.map fun n=>UInt8.ofNat n.toNat
def HV(t:Ty)(x:AV):Zq (List (El t) ×List Nat):=
 match x with
 |.vw id=>.getH id fun
  |some (.rows _ _ _ _)=>.fail
  |_=>Ke (.sl t) (.vw id)
 |x=>Ke (.sl t) x
def Jb(t:Ty)(v:AV):Zq (List (El t) ×List Nat):=
 match v with
 |.vw id=>.getH id fun
  |some (.vec b xs)=>.opt (Kl (.sl b) (.sl t) xs) fun y=>.ret (y,[id])
  |_=>.fail
 |.vs id 0 n=>.getH id fun
  |some (.vec b xs)=>.opt (Kl (.sl b) (.sl t) xs) fun y=>.ret (y.take n,[id])
  |_=>.fail
 |.nils=>.ret ([],[])
 |_=>.fail
def GF(lb:Ty)(v:AV):Zq (List (El (.pn lb)) ×List Nat):=
 match v with
 |.vw id=>.getH id fun
  |some (.vec c xs)=>.opt (Kl (.sl c) (.sl (.pn lb)) xs) fun y=>.ret (y,[id])
  |some (.vco b xs)=>.opt (Kl (.sl (.pn b)) (.sl (.pn lb)) xs) fun y=>.ret (y,[id])
  |_=>.fail
 |.nils=>.ret ([],[])
 |_=>.fail
def Yf(t:Ty)(v:AV):Zq (List (List (El t)) ×List Nat):=
 match v with
 |.vw id=>.getH id fun
  |some (.rows b xs _ none)=>.opt (Kl (.sl (.sl b)) (.sl (.sl t)) xs) fun y=>.ret (y,[id])
  |_=>.fail
 |.nils=>.ret ([],[])
 |_=>.fail
def ZjP(tn tq lt lb:Ty):Ty:=.prod tn (.prod tq (.prod lt (.prod (.sl (.sl lb)) (.prod (.sl lb) (.sl lb)))))
@[reducible] def ZcM (tn tq lt lb:Ty):Type:=El tn×El tq×El lt×List (List (El (.pn lb))) ×List (El (.pn lb)) ×List (El (.pn lb))
def Wo{tn tq lt lb:Ty}(b:El lb->Nat)(x:ZH tn tq lt lb):ZcM tn tq lt lb:=(x.1,x.2.1,x.2.2.1,x.2.2.2.1.map (fun r=>r.map (Kk b)),x.2.2.2.2.1.map (Kk b),x.2.2.2.2.2.map (Kk b))
open Classical in
noncomputable def untag{tn tq lt lb:Ty}(y:ZcM tn tq lt lb):Option (ZH tn tq lt lb):=if h:∃(x:ZH tn tq lt lb) (ad:El lb->Nat),XI ad x/\y=Wo ad x then some (Classical.choose h) else none
theorem Zub{tn tq lt lb:Ty}{y:ZcM tn tq lt lb}{x:ZH tn tq lt lb}(h:untag y=some x):∃b:El lb->Nat,XI b x/\y=Wo b x:=by
 unfold untag at h;split at h
 ·rename_i c;have:=Classical.choose_spec c;rw[Option.some.inj h]at this;exact this
 ·cases h
theorem ZhE{lb:Ty}{d c:El lb->Nat}{l l' :List (El lb)}(h:l.map (Kk d)=l'.map (Kk c)):l=l' :=by
 have:(l.map (Kk d)).map (fun z:El (.pn lb)=>(z:Option (Nat×El lb)).map Vra)=(l'.map (Kk c)).map (fun z:El (.pn lb)=>(z:Option (Nat×El lb)).map Vra):=by rw[h]
 simp only[List.map_map]at this;have e:∀(a:El lb->Nat) (k:List (El lb)),k.map ((fun z:El (.pn lb)=>(z:Option (Nat×El lb)).map Vra) ∘Kk a)=k.map some:=fun a k=>List.map_congr_left fun y _=>rfl;rw[e,e]at this
 have key:∀(a b:List (El lb)),a.map some=b.map some->a=b:=by
  intro a
  induction a with
  |nil=>intro b h;cases b with
   |nil=>rfl
   |cons _ _=>simp at h
  |cons u a f=>intro b h;cases b with
   |nil=>simp at h
   |cons v b=>
    simp only[Vq,List.cons.injEq,Option.some.injEq]at h;rw[h.1,f b h.2]
 exact key _ _ this
theorem Zt1{tn tq lt lb:Ty}{f c:El lb->Nat}{x d:ZH tn tq lt lb}(h:Wo f x=Wo c d):x=d:=by
 obtain⟨q,s,u,n,y,z⟩:=x;obtain⟨A,C,D,p,G,I⟩:=d;simp only[Wo,Vd]at h;obtain⟨rfl,rfl,rfl,i,j,k⟩:=h;obtain rfl:=ZhE j;obtain rfl:=ZhE k
 have:n=p:=by
  have e:∀(l l' :List (List (El lb))),(l.map fun r=>r.map (Kk f))=(l'.map fun r=>r.map (Kk c))->l=l' :=by
   intro l
   induction l with
   |nil=>intro l' h;cases l' with
    |nil=>rfl
    |cons a l' =>simp at h
   |cons a l m=>intro l' h;cases l' with
    |nil=>simp at h
    |cons b l' =>
     simp only[Vq,List.cons.injEq]at h;rw[ZhE h.1,m l' h.2]
  exact e _ _ i
 rw[this]
theorem untag_eq{tn tq lt lb:Ty}{c:El lb->Nat}{x:ZH tn tq lt lb}(h:XI c x):untag (Wo c x)=some x:=by have d:∃(e:ZH tn tq lt lb) (b:El lb->Nat),XI b e/\Wo c x=Wo b e:=⟨x,c,h,rfl⟩;unfold untag;rw[dif_pos d];obtain⟨b,_,f⟩:=Classical.choose_spec d;rw[<-Zt1 f]
structure Zz where
 tk:List Nat
 br:List Nat
def Zz.none:Zz:=⟨[],[]⟩
def Zz.app(a b:Zz):Zz:=⟨a.tk++b.tk,a.br++b.br⟩
mutual
def Pat.fits:Pat->Ty->Bool
 |.pd c,t=>c==t
 |.own c _,.sl t=>c==t
 |.rows c _,.sl (.sl t)=>c==t
 |.mrows _ _,.ref=>true
 |.it _ _,.ref=>true
 |.bld _ _ _,.ref=>true
 |.fnd _ _ _ _,.ref=>true
 |.owo lb,.sl t=>t== .pn lb
 |.var _ _,.ref=>true
 |.ro _,.ref=>true
 |.map _ _,.ref=>true
 |.fn _ _,.ref=>true
 |.nilr,.ref=>true
 |.nils,.sl _=>true
 |.agg l,t=>l.fits t
 |_,_=>false
def Pats.fits:Pats->Ty->Bool
 |.nil,.unit=>true
 |.cons p l,.prod a b=>p.fits a&&l.fits b
 |_,_=>false
end
mutual
def ext:(p:Pat)->AV->Zq (KP p×Zz)
 |.pd t,v=>(Ke t v).bind fun r=>.ret (r.1,⟨[],r.2⟩)
 |.own t _,v=>(Jb t v).bind fun r=>.ret (r.1,⟨r.2,[]⟩)
 |.var t p,v=>(match v with
  |.ptr id []=>.getH id fun
   |some (.var b c)=>bif b==t&&p.fits t then(ext p c).bind fun r=>.ret (r.1,⟨id::r.2.tk,r.2.br⟩) else .fail
   |_=>.fail
  |_=>.fail)
 |.ro t,v=>(match v with
  |.ptr id []=>.getH id fun
   |some (.var _ (.d b x))=>.opt (Kl b t x) fun y=>.ret (y,⟨[],[id]⟩)
   |_=>.fail
  |.dp b x=>.opt (Kl b t x) fun y=>.ret (y,Zz.none)
  |_=>.fail)
 |.map i u,v=>(match v with
  |.mp id=>.getH id fun
   |some (.map k e m)=>.opt (Kl (.sl (.prod k e)) (.sl (.prod i u)) m) fun y=>.ret (y,⟨[id],[]⟩)
   |_=>.fail
  |_=>.fail)
 |.rows t _,v=>(Yf t v).bind fun r=>.ret (r.1,⟨r.2,[]⟩)
 |.mrows i t,v=>(match v with
  |.mp id=>.getH id fun
   |some (.mrows k b m _ none)=>.opt (Kl (.sl (.prod k (.sl b))) (.sl (.prod i (.sl t))) m) fun y=>.ret (y,⟨[id],[]⟩)
   |_=>.fail
  |_=>.fail)
 |.it i u,v=>(match v with
  |.ptr id []=>.getH id fun
   |some (.rng k e m _)=>.opt (Kl (.sl (.prod k e)) (.sl (.prod i u)) m) fun y=>.ret (y,⟨[id],[]⟩)
   |_=>.fail
  |_=>.fail)
 |.bld T e _,v=>(match v with
  |.ptr id []=>.getH id fun
   |some (.bld J L K)=>bif Vc J T&&Vc L e then .ret (K,⟨[id],[]⟩) else .fail
   |_=>.fail
  |_=>.fail)
 |.fnd tn tq lt lb,v=>(match v with
  |.ptr id []=>.getH id fun
   |some (.fnd q s n j x)=>.opt (Kl (ZjP q s n j) (ZjP tn tq lt lb) x) fun y=>.ret (y,⟨[id],[]⟩)
   |some (.var t (.agg (.cons N (.cons O (.cons Q (.cons R (.cons S (.cons U .nil))))))))=>bif t==WX tn tq lt lb then
     (Ke tn N).bind fun z=>(Ke tq O).bind fun A=>(Ke lt Q).bind fun C=>(Yf (.pn lb) R).bind fun D=>(GF lb S).bind fun G=>(Jb (.pn lb) U).bind fun I=>
       .opt (untag (tn:=tn) (tq:=tq) (lt:=lt) (lb:=lb) (z.1,A.1,C.1,D.1,G.1,I.1)) fun y=>.ret (y,⟨id::(D.2++(G.2++I.2)),z.2++(A.2++C.2)⟩) else .fail
   |_=>.fail
  |_=>.fail)
 |.owo lb,v=>(GF lb v).bind fun r=>.ret (r.1,⟨r.2,[]⟩)
 |.agg l,v=>(match v with
  |.agg vs=>Wl l vs
  |.d t x=>bif (X4 t x).fits t then Wl l (X4 t x) else .fail
  |_=>.fail)
 |.fn f l,v=>(match v with
  |.fn M h=>bif Vc M f then Wl l h else .fail
  |_=>.fail)
 |.nilr,v=>(match v with
  |.nilr _=>.ret ((),Zz.none)
  |_=>.fail)
 |.nils,v=>(match v with
  |.nils=>.ret ((),Zz.none)
  |_=>.fail)
 |.any,_=>.ret ((),Zz.none)
def Wl:(l:Pats)->Zl->Zq (Kn l×Zz)
 |.nil,.nil=>.ret ((),Zz.none)
 |.cons p l,.cons v vs=>(ext p v).bind fun x=>(Wl l vs).bind fun y=>.ret ((x.1,y.1),x.2.app y.2)
 |_,_=>.fail
end
mutual
def inj:(p:Pat)->KP p->Nat->AV×List (Nat×KO) ×Nat
 |.pd t,x,n=>(.d t x,[],n)
 |.own t _,x,n=>(.vw n,[(n,.vec t x)],n+1)
 |.var t p,x,n=>let r:=inj p x (n+1);(.ptr n [],(n,.var t r.1)::r.2.1,r.2.2)
 |.ro t,x,n=>(.dp t x,[],n)
 |.map b c,x,n=>(.mp n,[(n,.map b c x)],n+1)
 |.rows t _,x,n=>(.vw n,[(n,.rows t x 0 none)],n+1)
 |.mrows b t,x,n=>(.mp n,[(n,.mrows b t x 0 none)],n+1)
 |.it b c,x,n=>(.ptr n [],[(n,.rng b c x none)],n+1)
 |.bld T e _,x,n=>(.ptr n [],[(n,.bld T e x)],n+1)
 |.fnd tn tq lt lb,x,n=>(.ptr n [],[(n,.fnd tn tq lt lb x)],n+1)
 |.owo lb,x,n=>(.vw n,[(n,.vco lb x)],n+1)
 |.agg l,x,n=>let r:=Z4 l x n;(.agg r.1,r.2)
 |.fn f l,x,n=>let r:=Z4 l x n;(.fn f r.1,r.2)
 |.nilr,_,n=>(.nilr false,[],n)
 |.nils,_,n=>(.nils,[],n)
 |.any,_,n=>(.junk,[],n)
def Z4:(l:Pats)->Kn l->Nat->Zl×List (Nat×KO) ×Nat
 |.nil,_,n=>(.nil,[],n)
 |.cons p l,x,n=>let r:=inj p x.1 n;let s:=Z4 l x.2 r.2.2;(.cons r.1 s.1,r.2.1++s.2.1,s.2.2)
end
mutual
def Kc:(p:Pat)->AV->Hv p->Nat->List (Nat×Option KO) ×Nat
 |.own t true,.vw id,x,n=>([(id,some (.vec t x))],n)
 |.var t p,.ptr id [],x,n=>let r:=inj p x n;((id,some (.var t r.1))::r.2.1.map fun o=>(o.1,some o.2),r.2.2)
 |.map b c,.mp id,x,n=>([(id,some (.map b c x))],n)
 |.rows t true,.vw id,x,n=>([(id,some (.rows t x n none))],n)
 |.mrows b t,.mp id,x,n=>([(id,some (.mrows b t x n none))],n)
 |.bld T e true,.ptr id [],x,n=>([(id,some (.bld T e x))],n)
 |.fnd tn tq lt lb,.ptr id [],x,n=>([(id,some (.fnd tn tq lt lb x))],n)
 |.agg l,.agg vs,x,n=>JC l vs x n
 |.fn _ l,.fn _ vs,x,n=>JC l vs x n
 |_,_,_,n=>([],n)
def JC:(l:Pats)->Zl->KY l->Nat->List (Nat×Option KO) ×Nat
 |.nil,_,_,n=>([],n)
 |.cons p l,.cons v vs,x,n=>let r:=Kc p v x.1 n;let s:=JC l vs x.2 r.2;(r.1++s.1,s.2)
 |.cons _ _,.nil,_,n=>([],n)
end
structure Spec where
 args:Pats
 res:Pats
 fns:List FuncId
 α:Type
 f:Kn args->Option α
 unp:α->KY args×Kn res
 pl:Bool:=true
 kp:List (Nat×Nat×Nat):=[]
abbrev Kq:=List (Nat×Option KO)
structure Z3 where
 ty:TypeId->Option Ty
 mty:TypeId->Option (Ty×Ty)
 rw:TypeId->Bool:=fun _=>false
 zx:TypeId->Bool:=fun _=>false
 bd:TypeId->Option TypeId:=fun _=>none
 pk:TypeId->Nat:=fun _=>0
 specs:FuncId->List Spec
 nt:Nat
 ks:List Nat
 pz:TypeId->Bool:=fun _=>false
 st:Nat:=0
 inl:FuncId->Option (Nat->Zl->Zq (AV×Kq)):=fun _=>none
def Z3.stp(E:Z3):Nat:=E.st+64
def KC(n:Nat):List Nat->Bool
 |[]=>false
 |k::l=>Vc n k||KC n l
def HL:List Nat->Bool
 |[]=>true
 |n::l=> !KC n l&&HL l
def JJ:List Nat->List Nat->Bool
 |[],_=>true
 |n::l,m=> !KC n m&&JJ l m
def Zz.ok(i:Zz)(fz:List Nat):Bool:=HL i.tk&&JJ i.br i.tk&&JJ i.tk fz
def Ty.flat:Ty->Bool
 |.sl _=>false
 |.ref=>false
 |.pt _=>false
 |.lk _ _=>false
 |.pn _=>false
 |.prod a b=>a.flat&&b.flat
 |.arr _ t=>t.flat
 |_=>true
mutual
def Pat.flat:Pat->Bool
 |.pd t=>t.flat
 |.own t _=>t.flat
 |.var _ p=>p.flat
 |.ro _=>false
 |.map b c=>b.flat&&c.flat
 |.rows t _=>t.flat
 |.mrows b t=>b.flat&&t.flat
 |.it b c=>b.flat&&c.flat
 |.bld _ _ _=>true
 |.fnd _ _ _ _=>false
 |.owo _=>false
 |.agg l=>l.flat
 |.fn _ l=>l.flat
 |.nilr=>true
 |.nils=>true
 |.any=>true
def Pats.flat:Pats->Bool
 |.nil=>true
 |.cons p l=>p.flat&&l.flat
end
mutual
def Pat.oflat:Pat->Bool
 |.own t k=> !k||t.flat
 |.var _ p=>p.flat
 |.map b c=>b.flat&&c.flat
 |.rows t k=> !k||t.flat
 |.mrows b t=>b.flat&&t.flat
 |.fnd _ _ _ _=>false
 |.agg l=>l.oflat
 |.fn _ l=>l.oflat
 |_=>true
def Pats.oflat:Pats->Bool
 |.nil=>true
 |.cons p l=>p.oflat&&l.oflat
end
mutual
def Pat.sz:Pat->Nat
 |.pd t=>t.size
 |.agg l=>l.sz
 |_=>1
def Pats.sz:Pats->Nat
 |.nil=>0
 |.cons p l=>p.sz+l.sz
end
mutual
def Pat.noAny:Pat->Bool
 |.any=>false
 |.var _ p=>p.noAny
 |.agg l=>l.noAny
 |.fn _ l=>l.noAny
 |_=>true
def Pats.noAny:Pats->Bool
 |.nil=>true
 |.cons p l=>p.noAny&&l.noAny
end
def Pats.wf:Pats->Bool
 |.nil=>true
 |.cons .any l=>l.wf
 |.cons p l=>p.noAny&&l.wf
def Zl.ofList:List AV->Zl
 |[]=>.nil
 |v::l=>.cons v (Zl.ofList l)
def Zl.app:Zl->Zl->Zl
 |.nil,m=>m
 |.cons v l,m=>.cons v (l.app m)
def Zl.nth:Zl->Nat->Option AV
 |.nil,_=>none
 |.cons v _,0=>some v
 |.cons _ l,n+1=>l.nth n
def ZbX:Zl->List FuncId
 |.nil=>[]
 |.cons (.fn f _) l=>f::ZbX l
 |.cons _ l=>ZbX l
def Zmo:Zl->AV
 |.cons v .nil=>v
 |l=>.tup l
def K8:Nat:=64
def Zbg(n:Nat):List Nat->Zq Unit
 |[]=>.ret ()
 |id::l=>.getH id fun
  |some (.rows _ _ v _)=>bif Vg v n then Zbg n l else .fail
  |some (.mrows _ _ _ v _)=>bif Vg v n then Zbg n l else .fail
  |_=>Zbg n l
def G7:List Nat->Zq Kq
 |[]=>.ret []
 |id::l=>.getH id fun
  |some (.vec t xs)=>(G7 l).bind fun p=>.ret ((id,some (.dat t xs))::p)
  |some (.rows t xs _ none)=>(G7 l).bind fun p=>.ret ((id,some (.dat (.sl t) xs))::p)
  |_=>G7 l
def ZfD(S:Spec)(nid:Nat)(b:Zl):Zq (AV×Kq):=
 (Wl S.args b).bind fun r=>
   .opt (Zy (r.2.ok [])) fun _=>(Zbg nid r.2.tk).bind fun _=>(bif S.res.flat&&S.args.oflat then .ret [] else G7 r.2.br).bind fun ds=>
    .opt (S.f r.1) fun z=>
     let y:=S.unp z
     let p:=JC S.args b y.1 nid
     let q:=Z4 S.res y.2 p.2
     .opt (Zy (Vw q.2.2 (nid+K8))) fun _=>.ret (Zmo q.1,(r.2.tk.map fun id=>(id,none))++(bif S.res.flat&&S.args.oflat then [] else r.2.br.map fun id=>(id,none))++p.1++(q.2.1.map fun o=>(o.1,some o.2))++ds)
def GD(id:Nat):Kq->Option (Option KO)
 |[]=>none
 |p::l=>match GD id l with
  |some o=>some o
  |none=>bif Vc p.1 id then some p.2 else none
def Zl.putNth:Zl->Nat->AV->Zl
 |.nil,_,_=>.nil
 |.cons _ l,0,v=>.cons v l
 |.cons u l,n+1,v=>.cons u (l.putNth n v)
def DX:Ty->Nat->Nat
 |.prod a b,n+1=>a.size+DX b n
 |_,_=>0
def ZgE(e:Zl)(k:Nat×Nat×Nat)(p:Kq):Zq Kq:=
 match e.nth k.1 with
 |some (.ptr b [])=>.getH b fun
  |some (.var T (.agg c))=>(match c.nth k.2.1 with
   |some (.vw d)=>.getH d fun
    |some (.vec t _)=>(match GD b p with
     |some (some (.var f (.agg h)))=>(match h.nth k.2.1 with
      |some (.vw nid)=>(match GD nid p with
       |some (some (.vec i xs))=>bif i==t&&f==T&&Vc (DX T k.2.1) k.2.2&& !Vc nid b&& !Vc d b then .ret (p++[(nid,none),(b,none),(d,some (.vec i xs)),(b,some (.var f (.agg (h.putNth k.2.1 (.vw d)))))]) else .fail
       |_=>.fail)
      |_=>.fail)
     |_=>.fail)
    |_=>.fail
   |_=>.fail)
  |_=>.fail
 |_=>.fail
def Zb9(b:Zl):List (Nat×Nat×Nat)->Kq->Zq Kq
 |[],p=>.ret p
 |k::l,p=>(ZgE b k p).bind fun q=>Zb9 b l q
def Zdf(S:Spec)(nid:Nat)(b:Zl):Zq (AV×Kq):=
 (ZfD S nid b).bind fun r=>(Zb9 b S.kp r.2).bind fun p=>.ret (r.1,p)
def Zap(nid:Nat)(c:Zl):List Spec->Zq (AV×Kq)
 |[]=>.fail
 |[S]=>Zdf S nid c
 |S::l=>(Wl S.args c).bind fun r=>.bool (S.f r.1).isSome fun b=>bif b then Zdf S nid c else Zap nid c l
def DP(fns:List FuncId):List Spec->List Spec
 |[]=>[]
 |S::l=>bif S.fns==fns then S::DP fns l else DP fns l
def Zdb:Value->AV
 |.bool b=>.d .bool b
 |.int k n=>.d (.int k) n
 |.string s=>.d .str s.data.toList
 |.pointer none=>.nilr true
 |.nilFunc=>.nilr false
 |.map none=>.nilr false
 |.slice none 0 0=>.nils
 |_=>.junk
def Zt(F:Nat->AV):Operand->AV
 |.tmp t=>F t
 |.const v=>Zdb v
 |.global _=>.junk
 |.func f=>bif Vg f Wu then .fn f .nil else .junk
def Zg8(k:IntKind)(x y:Int):Option Int:=if y=0 then none else some (k.wrap (x.tdiv y))
def Zg9(x y:Int):Option Int:=if y=0 then none else some (x.tmod y)
def GH(k:IntKind)(x y:Int):Option Int:=if y<0 then none else some (k.wrap (x*2 ^ (min y.toNat k.bits)))
def Zeo(k:IntKind)(x y:Int):Option Int:=if y<0 then none else some (x.fdiv (2 ^ (min y.toNat k.bits)))
def ZE(k:IntKind)(x y:Int):Int:=k.wrap (Vm k.bits x &&& Vm k.bits y).toNat
def Wy(k:IntKind)(x y:Int):Int:=k.wrap (Vm k.bits x ||| Vm k.bits y).toNat
def ZsL(k:IntKind)(x y:Int):Int:=k.wrap (Vm k.bits x ^^^ Vm k.bits y).toNat
def qandNot(k:IntKind)(x y:Int):Int:=k.wrap (Vm k.bits x &&& ~~~ Vm k.bits y).toNat
def imin(x y:Int):Int:=if y<x then y else x
def imax(x y:Int):Int:=if x<y then y else x
def Rk(op:BinOp)(k:IntKind)(x y:Int):Zq AV:=
 match op with
 |.add=>.ret (.d (.int k) (k.wrap (x+y)))
 |.sub=>.ret (.d (.int k) (k.wrap (x - y)))
 |.mul=>.ret (.d (.int k) (k.wrap (x*y)))
 |.quo=>.opt (Zg8 k x y) fun z=>.ret (.d (.int k) z)
 |.rem=>.opt (Zg9 x y) fun z=>.ret (.d (.int k) z)
 |.and=>.ret (.d (.int k) (ZE k x y))
 |.or=>.ret (.d (.int k) (Wy k x y))
 |.xor=>.ret (.d (.int k) (ZsL k x y))
 |.andNot=>.ret (.d (.int k) (qandNot k x y))
 |.shl=>.opt (GH k x y) fun z=>.ret (.d (.int k) z)
 |.shr=>.opt (Zeo k x y) fun z=>.ret (.d (.int k) z)
 |.eql=>.ret (.d .bool (decide (x=y)))
 |.neq=>.ret (.d .bool (!decide (x=y)))
 |.lss=>.ret (.d .bool (decide (x<y)))
 |.leq=>.ret (.d .bool (decide (x<=y)))
 |.gtr=>.ret (.d .bool (decide (y<x)))
 |.geq=>.ret (.d .bool (decide (y<=x)))
def catStr(x y:List UInt8):Option (List UInt8):=bif decide (x.length+y.length<2 ^ 62) then some (x++y) else none
def Zfw(op:BinOp)(x y:List UInt8):Zq AV:=
 match op with
 |.add=>.opt (catStr x y) fun z=>.ret (.d .str z)
 |.eql=>.ret (.d .bool (decide (x=y)))
 |.neq=>.ret (.d .bool (!decide (x=y)))
 |.lss=>.ret (.d .bool (Op.bytesLess x y))
 |.gtr=>.ret (.d .bool (!(Op.bytesLess x y||decide (x=y))))
 |.leq=>.ret (.d .bool (Op.bytesLess x y||decide (x=y)))
 |.geq=>.ret (.d .bool (!Op.bytesLess x y))
 |_=>.fail
def Zj9:AV->Bool
 |.dp _ _=>true
 |.ptr _ _=>true
 |.vp _ _ _=>true
 |.np _ _ _ _ _ _=>true
 |.mp _=>true
 |.fn _ _=>true
 |_=>false
def Zfn(θ:TypeId->Option Ty)(T:TypeId)(op:BinOp)(x y:AV):Zq AV:=
 match x,y with
 |.d (.int k) a,.d (.int e) b=>(match op with
  |.shl=>Rk .shl k a b
  |.shr=>Rk .shr k a b
  |op=>bif k==e then Rk op k a b else .fail)
 |.d .str a,.d .str b=>Zfw op a b
 |.d t a,.d c b=>(match op with
  |.eql=>bif θ T==some t&&Vw t.dep 100 then .opt (Kl c t b) fun b=>.opt (eqEl t a b) fun r=>.ret (.d .bool r) else .fail
  |.neq=>bif θ T==some t&&Vw t.dep 100 then .opt (Kl c t b) fun b=>.opt (eqEl t a b) fun r=>.ret (.d .bool (!r)) else .fail
  |_=>.fail)
 |_,_=>.fail
def Zec(k:Nat)(v:AV)(y:Operand):Bool:=match y with
 |.const (.pointer none)=>Vc k 1&& (match v with|.ptr _ _=>true|_=>false)
 |.const .nilFunc=>Vc k 2&& (match v with|.fn _ _=>true|_=>false)
 |.const (.map none)=>Vc k 3&& (match v with|.mp _=>true|_=>false)
 |_=>false
def aun(op:UnOp)(x:AV):Zq AV:=
 match op,x with
 |.not,.d .bool b=>.ret (.d .bool (!b))
 |.neg,.d (.int k) n=>.ret (.d (.int k) (k.wrap (0 - n)))
 |_,_=>.fail
def zeroEl:(t:Ty)->El t
 |.int _=>(0:Int)
 |.bool=>false
 |.str=>([]:List UInt8)
 |.sl t=>([]:List (El t))
 |.unit=>()
 |.prod a b=>(zeroEl a,zeroEl b)
 |.arr n t=>Vt n (zeroEl t)
 |.ref=>()
 |.pt t=>(none:Option (El t))
 |.lk a b=>([]:List (El a×El b))
 |.pn t=>(none:Option (Nat×El t))
def Ty.data:Ty->Bool
 |.ref=>false
 |.pt t=>t.data
 |.lk a b=>a.data&&b.data
 |.pn t=>t.data
 |.sl t=>t.data
 |.prod a b=>a.data&&b.data
 |.arr _ t=>t.data
 |_=>true
def ZeZ:Ty->AV
 |.ref=>.nilr false
 |.sl _=>.nils
 |a=>.jk a.size
def Ty.isSl:Ty->Bool
 |.sl _=>true
 |_=>false
def Y1(z:Bool)(a:Ty):AV:=bif a.data&& (z|| !a.isSl) then .d a (zeroEl a) else ZeZ a
def Gl(z:Bool):Ty->Zl
 |.prod a b=>.cons (Y1 z a) (Gl z b)
 |_=>.nil
def XA(t:Ty):AV:=
 bif t.data&& !t.isSl then .d t (zeroEl t) else match t with
  |.ref=>.nilr false
  |.sl _=>.nils
  |.prod a b=>.agg (Gl false (.prod a b))
  |t=>.jk t.size
def ZcD(x:Bool)(t:Ty):AV:=bif x then(match t with
 |.prod a b=>.agg (Gl false (.prod a b))
 |t=>XA t) else XA t
def DJ(z:Bool)(parts:List (Nat×AV)):Ty->Nat->Zl
 |.prod a b,n=>.cons ((parts.lookup n).getD (Y1 z a)) (DJ z parts b (n+1))
 |_,_=>.nil
def H6:Zl->Option DV
 |.nil=>some ⟨.unit,()⟩
 |.cons (.d t x) l=>match H6 l with
  |some ⟨u,y⟩=>some ⟨.prod t u,(x,y)⟩
  |none=>none
 |_=>none
def Zce(l:Zl):AV:=match H6 l with
 |some ⟨t,x⟩=>.d t x
 |none=>.agg l
def Ro(t:Ty)(parts:List (Nat×AV)):Nat->Nat->Option (List (El t))
 |0,_=>some []
 |m+1,n=>match (parts.lookup n).getD (.d t (zeroEl t)) with
  |.d b x=>(Kl b t x).bind fun y=>(Ro t parts m (n+1)).bind fun l=>some (y::l)
  |_=>none
def Zb0(e:Ty):List (Nat×AV)->Zq (List (Nat×AV) ×List Nat)
 |[]=>.ret ([],[])
 |p::l=>(Ke e p.2).bind fun x=>(Zb0 e l).bind fun r=>.ret ((p.1,.d e x.1)::r.1,x.2++r.2)
def fieldsOf:Ty->Nat
 |.prod _ b=>fieldsOf b+1
 |_=>0
def Ty.isStruct:Ty->Bool
 |.prod _ _=>true
 |.unit=>true
 |_=>false
def ZC:Nat:=2 ^ 39
def Zib(t:Ty)(nid:Nat)(s x:AV):Zq (AV×Kq):=
 (Jb t s).bind fun r=>(HV t x).bind fun y=>
   .opt (Zy (decide (r.1.length+y.1.length<=ZC))) fun _=>
    .ret (.vw nid,(r.2.map fun id=>(id,none))++[(nid,some (.vec t (r.1++y.1)))])
def ZiB(t:Ty)(nid:Nat)(n:Int):Zq (AV×Kq):=
 .opt (Zy (decide (1<=n/\n<=(ZC:Int)))) fun _=>.ret (.vw nid,[(nid,some (.vec t (Vt n.toNat (zeroEl t))))])
def Zie(t:Ty)(d s:AV):Zq (AV×Kq):=
 match d with
 |.vw id=>.getH id fun
  |some (.vec c xs)=>.opt (Kl (.sl c) (.sl t) xs) fun xs=>(HV t s).bind fun y=>
    .ret (.d (.int .i64) ((min y.1.length xs.length:Nat):Int),[(id,some (.vec t (y.1.take (min y.1.length xs.length)++xs.drop (min y.1.length xs.length))))])
  |_=>.fail
 |.vs id b n=>.getH id fun
  |some (.vec c xs)=>.opt (Kl (.sl c) (.sl t) xs) fun xs=>.opt (Zy (Vw (b+n) xs.length)) fun _=>(HV t s).bind fun y=>
    .ret (.d (.int .i64) ((min y.1.length n:Nat):Int),[(id,some (.vec t (xs.take b++y.1.take (min y.1.length n)++xs.drop (b+min y.1.length n))))])
  |_=>.fail
 |_=>.fail
def Zc0(id nid:Nat)(c:Ty)(k:El c):Zq KO:=
 .getH id fun
  |some (.rows t xs v none)=>bif Vg v nid then .opt (Kl c (.int .i64) k) fun i=>.ret (.rows t xs nid (some i.toNat)) else .fail
  |some (.mrows b t m v none)=>bif Vg v nid then .opt (Kl c b k) fun d=>.ret (.mrows b t m nid (some d)) else .fail
  |_=>.fail
def Zfo(id:Nat)(d:Ty)(k:El d)(t:Ty)(row:List (El t)):Zq KO:=
 .getH id fun
  |some (.rows c xs v none)=>.opt (Kl d (.int .i64) k) fun i=>.opt (Kl (.sl t) (.sl c) row) fun y=>.ret (.rows c (xs.set i.toNat y) v none)
  |some (.mrows b c m v none)=>.opt (Kl d b k) fun e=>.opt (Kl (.sl t) (.sl c) row) fun y=>.ret (.mrows b c (Kh (Zj b) e y m) v none)
  |_=>.fail
def Zic(t:Ty)(nid id ver:Nat)(b:Ty)(k:El b)(x:AV):Zq (AV×Kq):=
 (XZ id ver b k).bind fun r=>.opt (Kl (.sl r.1) (.sl t) r.2) fun xs=>(HV t x).bind fun y=>
   .opt (Zy (decide (xs.length+y.1.length<=ZC))) fun _=>.opt (Zy (!KC id y.2)) fun _=>(Zc0 id nid b k).bind fun o=>
    .ret (.vw nid,[(id,some o),(nid,some (.vec t (xs++y.1)))])
def Zid(t:Ty)(nid:Nat)(s x:AV):Zq (AV×Kq):=
 (Yf t s).bind fun r=>(Yf t x).bind fun y=>
   .opt (Zy (decide (r.1.length+y.1.length<=ZC))) fun _=>.opt (Zy (HL (r.2++y.2))) fun _=>
    .ret (.vw nid,((r.2++y.2).map fun id=>(id,none))++[(nid,some (.rows t (r.1++y.1) 0 none))])
def ZbF(t:Ty)(parts:List (Nat×AV)):Nat->Nat->Zq (List (List (El t)) ×List Nat)
 |0,_=>.ret ([],[])
 |m+1,n=>(Jb t ((parts.lookup n).getD .nils)).bind fun x=>(ZbF t parts m (n+1)).bind fun y=>.ret (x.1::y.1,x.2++y.2)
def DS(h:Option Nat)(i:Nat):Bool:=match h with
 |none=>true
 |some j=>Vc j i
def holeK(b:Ty)(h:Option (El b))(k:El b):Bool:=match h with
 |none=>true
 |some j=>Zj b j k
def W6:Option Ty->Bool
 |some (.sl _)=>true
 |_=>false
def Zil(t:Option Ty)(mp:Bool)(v:AV):Zq AV:=
 match v with
 |.d (.sl _) xs=>bif W6 t then .ret (.d (.int .i64) (xs.length:Int)) else .fail
 |.d .str xs=>bif t==some .str then .ret (.d (.int .i64) (xs.length:Int)) else .fail
 |.nils=>bif W6 t then .ret (.d (.int .i64) (0:Int)) else .fail
 |.vs _ _ n=>bif W6 t then .ret (.d (.int .i64) (n:Int)) else .fail
 |.vw id=>bif W6 t then .getH id fun
  |some (.vec _ xs)=>.ret (.d (.int .i64) (xs.length:Int))
  |some (.rows _ xs _ _)=>.ret (.d (.int .i64) (xs.length:Int))
  |some (.dat _ xs)=>.ret (.d (.int .i64) (xs.length:Int))
  |some (.vco _ xs)=>.ret (.d (.int .i64) (xs.length:Int))
  |_=>.fail else .fail
 |.nw id ver b k=>bif W6 t then(XZ id ver b k).bind fun r=>.ret (.d (.int .i64) (r.2.length:Int)) else .fail
 |.mp id=>bif mp then .getH id fun
  |some (.map _ _ m)=>.ret (.d (.int .i64) (m.length:Int))
  |_=>.fail else .fail
 |_=>.fail
def Ga(n:Nat):List Nat->Bool
 |[]=>true
 |i::l=>Vw (i+1) n&& !(l.contains i) &&Ga n l
def Zai(f:Int->Int->Int)(k:IntKind):Int->List AV->Zq AV
 |a,[]=>.ret (.d (.int k) a)
 |a,.d (.int c) b::l=>bif c==k then Zai f k (f a b) l else .fail
 |_,_=>.fail
def AV.solid:AV->Bool
 |.jk _=>false
 |_=>true
def KF(v:AV):Option Int:=match v with
 |.d (.int _) n=>some n
 |_=>none
def sliceB(len cap:Nat)(lo b:Option Int):Option (Nat×Nat):=
 let h:Option Nat:=match b with|some x=>if 0<=x/\x<=cap then some x.toNat else none|none=>some len
 h.bind fun h=>match lo with
  |some x=>if 0<=x/\x<=h then some (x.toNat,h) else none
  |none=>some (0,h)
def Xr(b:Operand->AV):Option Operand->Bool
 |some x=>(KF (b x)).isSome
 |none=>true
def YN:AV->Option Nat
 |.d t _=>some t.size
 |.dp _ _=>some 1
 |.ptr _ _=>some 1
 |.vp _ _ _=>some 1
 |.mp _=>some 1
 |.fn _ _=>some 1
 |.nilr _=>some 1
 |.nils=>some 1
 |.vw _=>some 1
 |.vs _ _ _=>some 1
 |.nw _ _ _ _=>some 1
 |.np _ _ _ _ _ _=>some 1
 |_=>none
def Zar(v:AV):Bool:= !v.isAgg&& (match YN v with
 |some n=>Vc n 1
 |none=>false)
def G5:Zl->Bool
 |.nil=>true
 |.cons v l=>Zar v&&G5 l
def Zch:List AV->Bool
 |[]=>true
 |.tup _::_=>false
 |_::l=>Zch l
def ZG(E:Z3)(nid:Nat)(op:Op)(_rt:TypeId)(A:Operand->AV):Zq (AV×Kq):=
 match op with
 |.move x=>.ret (A x,[])
 |.assign x=>.ret (A x,[])
 |.pick c a b=>(match A c with
  |.d .bool t=>.bool t fun t=>.ret (bif t then A a else A b,[])
  |_=>.fail)
 |.alloc T=>(match E.bd T with
  |some e=>.ret (.ptr nid [],[(nid,some (.bld T e []))])
  |none=>.opt (E.ty T) fun t=>.ret (.ptr nid [],[(nid,some (.var t (ZcD (E.zx T) t)))]))
 |.box T x=>.opt (E.ty T) fun t=>bif (A x).fits t then .ret (.ptr nid [],[(nid,some (.var t (A x)))]) else .fail
 |.build T N=>.opt (E.ty T) fun t=>(match t with
  |.prod a b=>bif !Ga (fieldsOf (.prod a b)) (N.toList.map (·.1)) then .fail else let l:=DJ (Ty.data (.prod a b) && !E.zx T) (N.toList.map fun p=>(p.1,A p.2)) (.prod a b) 0;bif l.fits (.prod a b) then(bif E.rw T then(Ke (.prod a b) (Zce l)).bind fun r=>.ret (.d (.prod a b) r.1,r.2.map fun id=>(id,none)) else .ret (Zce l,[])) else .fail
  |.arr n e=>bif !Ga n (N.toList.map (·.1)) || !e.data then .fail else .opt (Ro e (N.toList.map fun p=>(p.1,A p.2)) n 0) fun l=>.ret (.d (.arr n e) l,[])
  |_=>.fail)
 |.buildSlice T n N=>.opt (E.ty T) fun t=>(match t with
  |.sl e=>bif E.rw T then(match e with
    |.sl O=>bif !Ga n (N.toList.map (·.1)) ||Vg (2 ^ 24) n then .fail else(ZbF O (N.toList.map fun p=>(p.1,A p.2)) n 0).bind fun r=>.opt (Zy (HL r.2)) fun _=>.ret (.vw nid,(r.2.map fun id=>(id,none))++[(nid,some (.rows O r.1 0 none))])
    |_=>.fail) else bif !Ga n (N.toList.map (·.1)) || !e.data||Vg (2 ^ 24) (n*e.size) then .fail else(Zb0 e (N.toList.map fun p=>(p.1,A p.2))).bind fun r=>.opt (Ro e r.1 n 0) fun l=>(G7 r.2).bind fun ds=>.ret (.vw nid,(r.2.map fun id=>(id,none))++[(nid,some (.vec e l))]++ds)
  |_=>.fail)
 |.load T a=>.opt (E.ty T) fun t=>(match A a with
  |.dp Q x=>bif Q==t then .ret (.d Q x,[]) else .fail
  |.ptr id p=>.getH id fun
   |some (.var _ c)=>(HF c p).bind fun v=>bif v.fits t&&v.solid then .ret (v,[]) else .fail
   |some (.fnd U V lt _ x)=>(HF (ZbY U V lt x) p).bind fun v=>bif v.fits t&&v.solid then .ret (v,[]) else .fail
   |_=>.fail
  |.vp id i p=>.getH id fun
   |some (.vec _ xs)=>.opt xs[i]? fun x=>(X8 _ x p).bind fun v=>bif v.1==t then .ret (.d v.1 v.2,[]) else .fail
   |some (.rows I xs v none)=>bif p.isEmpty&&t== .sl I then .opt xs[i]? fun _=>.ret (.nw id v (.int .i64) (i:Int),[]) else .fail
   |_=>.fail
  |.np id ver D k i p=>(XZ id ver D k).bind fun r=>.opt r.2[i]? fun x=>(X8 _ x p).bind fun v=>bif v.1==t then .ret (.d v.1 v.2,[]) else .fail
  |_=>.fail)
 |.store T a x=>.opt (E.ty T) fun t=>bif (A x).fits t then(match A a with
  |.ptr id p=>.getH id fun
   |some (.var I c)=>(Do I c p (A x)).bind fun Y=>.ret (.junk,[(id,some (.var I Y))])
   |_=>.fail
  |.vp id i p=>.getH id fun
   |some (.vec I xs)=>.opt xs[i]? fun e=>.opt (A x).dv? fun y=>(J4 I e p y).bind fun O=>.ret (.junk,[(id,some (.vec I (xs.set i O)))])
   |some (.rows I xs v h)=>bif p.isEmpty&&t== .sl I&&Vg v nid then .opt (Zy (DS h i)) fun _=>.opt xs[i]? fun _=>(Jb I (A x)).bind fun r=>.ret (.junk,(r.2.map fun id=>(id,none))++[(id,some (.rows I (xs.set i r.1) nid none))]) else .fail
   |_=>.fail
  |.np id ver D k i p=>(XZ id ver D k).bind fun r=>.opt r.2[i]? fun e=>.opt (A x).dv? fun y=>(J4 r.1 e p y).bind fun O=>(Zfo id D k r.1 (r.2.set i O)).bind fun o=>.ret (.junk,[(id,some o)])
  |_=>.fail) else .fail
 |.nilCheck x=>bif Zj9 (A x) then .ret (A x,[]) else .fail
 |.binOp op T x y _=>bif Zec (E.pk T) (A x) y then(match op with
   |.eql=>.ret (.d .bool false,[])
   |.neq=>.ret (.d .bool true,[])
   |_=>.fail) else(Zfn E.ty T op (A x) (A y)).bind fun v=>.ret (v,[])
 |.unOp op _ x=>(aun op (A x)).bind fun v=>.ret (v,[])
 |.convert S T x=>.opt (E.ty S) fun s=>.opt (E.ty T) fun t=>(match t,A x with
  |.int k,.d (.int _) n=>.ret (.d (.int k) (k.wrap n),[])
  |.str,.d .str s=>.ret (.d .str s,[])
  |.str,v=>bif s== .sl (.int .u8) then(HV (.int .u8) v).bind fun r=>.ret (.d .str (Zde r.1),[]) else .fail
  |_,_=>.fail)
 |.makeFunc (.func f) first G=>bif first.isEmpty&&Vg f Wu&&G5 (Zl.ofList (G.toList.map A)) then .ret (.fn f (Zl.ofList (G.toList.map A)),[]) else .fail
 |.makeMap T r=>.opt (E.mty T) fun m=>bif E.rw T then(match m with
   |(D,.sl t)=>bif D.keyOk&& (match r with|none=>true|some x=>(KF (A x)).isSome) then .ret (.mp nid,[(nid,some (.mrows D t [] 0 none))]) else .fail
   |_=>.fail) else bif m.1.keyOk&& (match r with|none=>true|some x=>(KF (A x)).isSome) then .ret (.mp nid,[(nid,some (.map m.1 m.2 []))]) else .fail
 |.makeSlice T l c=>.opt (E.ty T) fun t=>(match t,A l,A c with
  |.sl e,.d (.int _) n,.d (.int _) m=>bif E.rw T then(match e with
    |.sl O=>.opt (Zy (decide (0<=n/\n<=m/\m<=ZC))) fun _=>.ret (.vw nid,[(nid,some (.rows O (Vt n.toNat []) 0 none))])
    |_=>.fail) else bif !e.data then .fail else .opt (Zy (decide (0<=n/\n<=m/\m<=ZC))) fun _=>.ret (.vw nid,[(nid,some (.vec e (Vt n.toNat (zeroEl e))))])
  |_,_,_=>.fail)
 |.slice T x J M none=>bif !(Xr A J&&Xr A M) then .fail else(match A x with
  |.d (.sl t) xs=>bif !(E.ty T==some (.sl t)) then .fail else .opt (sliceB xs.length xs.length (J.bind fun o=>KF (A o)) (M.bind fun o=>KF (A o))) fun r=>.ret (.d (.sl t) ((xs.drop r.1).take (r.2 - r.1)),[])
  |.d .str xs=>bif !(E.ty T==some .str) then .fail else .opt (sliceB xs.length xs.length (J.bind fun o=>KF (A o)) (M.bind fun o=>KF (A o))) fun r=>.ret (.d .str ((xs.drop r.1).take (r.2 - r.1)),[])
  |.nils=>(match E.ty T with
   |some (.sl _)=>.opt (sliceB 0 0 (J.bind fun o=>KF (A o)) (M.bind fun o=>KF (A o))) fun _=>.ret (.nils,[])
   |_=>.fail)
  |.vw id=>.getH id fun
   |some (.vec t xs)=>bif !(E.ty T==some (.sl t)) then .fail else .opt (sliceB xs.length xs.length (J.bind fun o=>KF (A o)) (M.bind fun o=>KF (A o))) fun r=>(match J with|none=>.ret (.vs id 0 r.2,[]) |some _=>.ret (.vs id r.1 (r.2 - r.1),[]))
   |some (.dat t xs)=>bif !(E.ty T==some (.sl t)) then .fail else .opt (sliceB xs.length xs.length (J.bind fun o=>KF (A o)) (M.bind fun o=>KF (A o))) fun r=>.ret (.d (.sl t) ((xs.drop r.1).take (r.2 - r.1)),[])
   |_=>.fail
  |_=>.fail)
 |.slice T x J (some M) (some mx)=>bif !(Xr A J&&Xr A (some M)) then .fail else(match A x with
  |.vw id=>.getH id fun
   |some (.vec t xs)=>bif !(E.ty T==some (.sl t)) then .fail else .opt (KF (A mx)) fun m=>.opt (ZA m (xs.length+1)) fun m=>.opt (sliceB xs.length m (J.bind fun o=>KF (A o)) (KF (A M))) fun r=>(match J with|none=>.ret (.vs id 0 r.2,[]) |some _=>.ret (.vs id r.1 (r.2 - r.1),[]))
   |_=>.fail
  |_=>.fail)
 |.fieldAddr T x f=>.opt (E.ty T) fun t=>.opt (ZM t [f]) fun r=>bif Vc r.2.size 0|| !t.isStruct then .fail else(match A x with
  |.dp Q y=>bif Q==t then(X8 Q y [f]).bind fun v=>.ret (.dp v.1 v.2,[]) else .fail
  |.ptr id p=>.getH id fun
   |some (.var I _)=>.opt (Y0 I p) fun q=>bif q==t then .ret (.ptr id (p++[f]),[]) else .fail
   |some (.fnd U V lt X _)=>bif (match p with
     |[]=>WX U V lt X==t||XQ U V lt X==t
     |i::_=>Vg i 3&&Y0 (WX U V lt X) p==some t) then .ret (.ptr id (p++[f]),[]) else .fail
   |_=>.fail
  |.vp id i p=>.getH id fun
   |some (.vec I _)=>.opt (ZM I p) fun q=>bif q.2==t then .ret (.vp id i (p++[f]),[]) else .fail
   |_=>.fail
  |.np id ver D k i p=>(XZ id ver D k).bind fun s=>.opt (ZM s.1 p) fun q=>bif q.2==t then .ret (.np id ver D k i (p++[f]),[]) else .fail
  |_=>.fail)
 |.field T x f=>.opt (E.ty T) fun t=>.opt (ZM t [f]) fun r=>bif !t.isStruct|| !(A x).fits t|| !(A x).solid then .fail else(HF (A x) [f]).bind fun v=>bif v.fits r.2&&v.solid then .ret (v,[]) else .fail
 |.indexAddr T x i=>.opt (E.ty T) fun L=>(match A x,A i with
  |.d (.sl t) xs,.d (.int _) n=>bif L== .sl t then .opt (idx xs n) fun y=>.ret (.dp t y,[]) else .fail
  |.vw id,.d (.int _) n=>.getH id fun
   |some (.vec t xs)=>bif L== .sl t then .opt (ZA n xs.length) fun j=>.ret (.vp id j [],[]) else .fail
   |some (.rows t xs _ _)=>bif L== .sl (.sl t) then .opt (ZA n xs.length) fun j=>.ret (.vp id j [],[]) else .fail
   |some (.dat t xs)=>bif L== .sl t then .opt (idx xs n) fun y=>.ret (.dp t y,[]) else .fail
   |_=>.fail
  |.nw id ver D k,.d (.int _) n=>(XZ id ver D k).bind fun r=>bif L== .sl r.1 then .opt (ZA n r.2.length) fun j=>.ret (.np id ver D k j [],[]) else .fail
  |.vs id J m,.d (.int _) n=>.getH id fun
   |some (.vec t xs)=>bif L== .sl t then .opt (Zy (decide (J+m<=xs.length))) fun _=>.opt (ZA n m) fun j=>.ret (.vp id (J+j) [],[]) else .fail
   |_=>.fail
  |.dp (.arr m t) xs,.d (.int _) n=>bif L== .arr m t then .opt (idx xs n) fun y=>.ret (.dp t y,[]) else .fail
  |.ptr id p,.d (.int _) n=>.getH id fun
   |some (.var I _)=>.opt (ZM I p) fun q=>(match q.2 with
    |.arr m t=>bif L== .arr m t then .opt (ZA n m) fun j=>.ret (.ptr id (p++[j]),[]) else .fail
    |_=>.fail)
   |_=>.fail
  |_,_=>.fail)
 |.index T x i=>.opt (E.ty T) fun L=>(match A x,A i with
  |.d (.arr m t) xs,.d (.int _) n=>bif L== .arr m t&& !Vc t.size 0 then .opt (idx xs n) fun y=>.ret (.d t y,[]) else .fail
  |.d .str xs,.d (.int _) n=>bif L== .str then .opt (idx xs n) fun y=>.ret (.d (.int .u8) (y.toNat:Int),[]) else .fail
  |_,_=>.fail)
 |.lookup T m k ok=>.opt (E.mty T) fun mt=>(match A m,A k with
  |.mp id,.d D x=>.getH id fun
   |some (.map C K es)=>bif C.keyOk&&mt.1==C&&mt.2==K&&K.data then .opt (Kl D C x) fun y=>
     .ret (bif ok then .tup (.cons (.d K ((ZK (Zj C) y es).getD (zeroEl K))) (.cons (.d .bool (ZK (Zj C) y es).isSome) .nil)) else .d K ((ZK (Zj C) y es).getD (zeroEl K)),[]) else .fail
   |some (.mrows C t m v none)=>bif C.keyOk&&mt.1==C&&mt.2== .sl t then .opt (Kl D C x) fun y=>
     .ret (bif ok then .tup (.cons (.nw id v C y) (.cons (.d .bool (ZK (Zj C) y m).isSome) .nil)) else .nw id v C y,[]) else .fail
   |_=>.fail
  |_,_=>.fail)
 |.mapUpdate T m k v=>.opt (E.mty T) fun mt=>(match A m,A k,A v with
  |.mp id,.d D x,.d K z=>.getH id fun
   |some (.map C W es)=>bif C.keyOk&&mt.1==C then .opt (Kl D C x) fun y=>.opt (Kl K W z) fun u=>.ret (.junk,[(id,some (.map C W (Kh (Zj C) y u es)))]) else .fail
   |_=>.fail
  |.mp id,.d D x,.vw Z=>.getH id fun
   |some (.mrows C t es u h)=>bif C.keyOk&&mt.1==C&&mt.2== .sl t&&Vg u nid then .opt (Kl D C x) fun y=>.opt (Zy (holeK C h y)) fun _=>(Jb t (.vw Z)).bind fun r=>
     .ret (.junk,(r.2.map fun id=>(id,none))++[(id,some (.mrows C t (Kh (Zj C) y r.1 es) nid none))]) else .fail
   |_=>.fail
  |_,_,_=>.fail)
 |.range T x=>.opt (E.mty T) fun _=>(match A x with
  |.mp id=>.getH id fun
   |some (.map D K m)=>.ret (.ptr nid [],[(id,none),(nid,some (.rng D K m none))])
   |_=>.fail
  |_=>.fail)
 |.next it false=>(match A it with
  |.ptr id []=>.getH id fun
   |some (.rng _ _ [] _)=>.ret (.tup (.cons (.d .bool false) .nil),[])
   |_=>.fail
  |_=>.fail)
 |.entry it=>(match A it with
  |.ptr id []=>.getH id fun
   |some (.rng D K _ (some e))=>.ret (.tup (.cons (.d D e.1) (.cons (.d K e.2) .nil)),[])
   |_=>.fail
  |_=>.fail)
 |.extract t i=>(match A t with
  |.tup l=>.opt (l.nth i) fun v=>.ret (v,[])
  |_=>.fail)
 |.call c=>(match c.callee with
  |.builtin .len=>(match c.args.toList,c.argTypes[0]? with
   |[x],some T=>(Zil (E.ty T) (E.mty T).isSome (A x)).bind fun v=>.ret (v,[])
   |_,_=>.fail)
  |.builtin .min=>(match c.args.toList with
   |x::l=>(match A x with
    |.d (.int k) a=>(Zai imin k a (l.map A)).bind fun v=>.ret (v,[])
    |_=>.fail)
   |_=>.fail)
  |.builtin .max=>(match c.args.toList with
   |x::l=>(match A x with
    |.d (.int k) a=>(Zai imax k a (l.map A)).bind fun v=>.ret (v,[])
    |_=>.fail)
   |_=>.fail)
  |.builtin .append=>(match c.args.toList,(c.argTypes[0]?).bind E.ty with
   |[s,x],some (.sl t)=>bif !W6 ((c.argTypes[1]?).bind E.ty) then(match A s,A x,(c.argTypes[1]?).bind E.ty with
      |.nils,.d (.int _) n,some (.int _)=>bif (c.argTypes[0]?).any E.rw|| !t.data then .fail else ZiB t nid n
      |_,_,_=>.fail) else bif (c.argTypes[0]?).any E.rw then(match t with
      |.sl Q=>Zid Q nid (A s) (A x)
      |_=>.fail) else(match A s with
      |.nw id ver D k=>Zic t nid id ver D k (A x)
      |s=>Zib t nid s (A x))
   |_,_=>.fail)
  |.builtin .copy=>(match c.args.toList,(c.argTypes[0]?).bind E.ty with
   |[d,s],some (.sl t)=>Zie t (A d) (A s)
   |_,_=>.fail)
  |.builtin .cap=>(match c.args.toList,c.argTypes[0]? with
   |[x],some T=>(match A x with
    |.nils=>bif W6 (E.ty T) then .ret (.d (.int .i64) (0:Int),[]) else .fail
    |_=>.fail)
   |_,_=>.fail)
  |.value f=>(match A f with
   |.fn f G=>bif !(G5 G&&Zch (c.args.toList.map A)) then .fail else let R:=bif Vg f Wu then(Zl.ofList (c.args.toList.map A)).app G else G.app (Zl.ofList (c.args.toList.map A))
    Zap nid R (DP (ZbX R) (E.specs (HE f)))
   |_=>.fail)
  |_=>.fail)
 |_=>.fail
def Zed(v:AV):Zq Bool:=
 match v with
 |.nils=>.ret true
 |.d (.sl _) xs=>.opt (Zy (!xs.isEmpty)) fun _=>.ret false
 |.vw id=>.getH id fun
  |some (.vec _ xs)=>.opt (Zy (!xs.isEmpty)) fun _=>.ret false
  |_=>.fail
 |_=>.fail
def unc{α β:Type} :List (α×β)->Option (α×List (α×β) ×β)
 |[]=>none
 |y::l=>some (y.1,l,y.2)
def Zb8:Option Ty->Bool
 |some (.pt _)=>true
 |some (.lk _ _)=>true
 |some (.pn _)=>true
 |_=>false
def AV.isPtD:AV->Bool
 |.d (.pt _) _=>true
 |.d (.lk _ _) _=>true
 |.d (.pn _) _=>true
 |_=>false
def DM(v:AV):Zq AV:=match v with
 |.d (.pt t) o=>.opt o fun y=>.ret (.dp t y)
 |.d (.lk a b) l=>.opt (unc l) fun y=>.ret (.dp (RU a b) y)
 |.d (.pn t) o=>.opt o fun y=>.ret (.dp t y.2)
 |_=>.fail
def Zen(v:AV):Option Bool:=match v with
 |.d (.pt _) o=>some o.isNone
 |.d (.lk _ _) l=>some l.isEmpty
 |.d (.pn _) o=>some o.isNone
 |_=>none
def WD(E:Z3)(nid:Nat)(op:Op)(rt:TypeId)(z:Operand->AV):Zq (AV×Kq):=
 match op with
 |.mapEntry T m k=>.opt (E.mty T) fun mt=>(match z m,z k with
  |.mp id,.d Q x=>.getH id fun
   |some (.mrows A t es v none)=>bif A.keyOk&&mt.1==A&&mt.2== .sl t then .opt (Kl Q A x) fun y=>
     .ret (.tup (.cons (.nw id v A y) (.cons (.d (.int .i64) ((G2 (Zj A) y es:Nat):Int)) .nil)),[(id,some (.mrows A t (Kh (Zj A) y ((ZK (Zj A) y es).getD []) es) v none))]) else .fail
   |_=>.fail
  |_,_=>.fail)
 |.entryStore T m s x=>.opt (E.mty T) fun mt=>(match z m,z s,z x with
  |.mp id,.d (.int _) n,.vw O=>.getH id fun
   |some (.mrows A t es u h)=>bif A.keyOk&&mt.1==A&&mt.2== .sl t&&Vg u nid then .opt (idx es n) fun e=>.opt (Zy (holeK A h e.1)) fun _=>(Jb t (.vw O)).bind fun r=>
     .ret (.junk,(r.2.map fun id=>(id,none))++[(id,some (.mrows A t (Kh (Zj A) e.1 r.1 es) nid none))]) else .fail
   |_=>.fail
  |_,_,_=>.fail)
 |.indexAddr T x i=>(match z x,z i with
  |.vw id,.d (.int k) n=>.getH id fun
   |some (.vco C xs)=>bif E.ty T==some (.sl (.pn C)) then .opt (ZA n xs.length) fun j=>.ret (.op id j,[]) else .fail
   |_=>ZG E nid (.indexAddr T x i) rt z
  |_,_=>ZG E nid (.indexAddr T x i) rt z)
 |.slice T x D I K=>(match z x,K with
  |.vw id,none=>.getH id fun
   |some (.vco C xs)=>bif !(E.ty T==some (.sl (.pn C))) || !(Xr z D&&Xr z I) then .fail else .opt (sliceB xs.length xs.length (D.bind fun o=>KF (z o)) (I.bind fun o=>KF (z o))) fun r=>.ret (.vw nid,[(id,none),(nid,some (.vco C ((xs.drop r.1).take (r.2 - r.1))))])
   |_=>ZG E nid (.slice T x D I K) rt z
  |.ptr id [],none=>.getH id fun
   |some (.var L (.d (.arr n t) xs))=>bif !(Xr z D&&Xr z I) || !(E.ty T==some (.arr n t)) || !(L== .arr n t) then .fail else .opt (sliceB n n (D.bind fun o=>KF (z o)) (I.bind fun o=>KF (z o))) fun r=>.ret (.d (.sl t) ((xs.drop r.1).take (r.2 - r.1)),[(id,none)])
   |_=>ZG E nid (.slice T x D I K) rt z
  |_,_=>ZG E nid (.slice T x D I K) rt z)
 |.nilCheck x=>bif (z x).isPtD then(DM (z x)).bind fun _=>.ret (z x,[]) else ZG E nid op rt z
 |.fieldAddr T x f=>bif (z x).isPtD then(DM (z x)).bind fun v=>ZG E nid (.fieldAddr T x f) rt fun _=>v else ZG E nid op rt z
 |.call c=>(match c.callee with
  |.builtin .clear=>(match c.args.toList,(c.argTypes[0]?).bind E.ty with
   |[x],some (.sl t)=>(match z x with
    |.vs id D n=>.getH id fun
     |some (.vec J xs)=>bif J==t&&J.data then .opt (Zy (decide (D+n<=xs.length))) fun _=>.ret (.tup .nil,[(id,some (.vec J (xs.take D++Vt n (zeroEl J)++xs.drop (D+n))))]) else .fail
     |_=>.fail
    |_=>.fail)
   |_,_=>.fail)
  |.builtin .append=>(match c.args.toList,(c.argTypes[0]?).bind E.ty with
   |[s,x],some (.sl (.pn C))=>(match z s with
    |.vw id=>.getH id fun
     |some (.vco M xs)=>bif !W6 ((c.argTypes[1]?).bind E.ty) then .fail else .opt (Kl (.sl (.pn M)) (.sl (.pn C)) xs) fun xs=>(HV (.pn C) (z x)).bind fun y=>
       .opt (Zy (decide (xs.length+y.1.length<=ZC))) fun _=>.ret (.vw nid,[(id,none),(nid,some (.vco C (xs++y.1)))])
     |_=>ZG E nid op rt z
    |_=>ZG E nid op rt z)
   |_,_=>ZG E nid op rt z)
  |_=>ZG E nid op rt z)
 |.makeFunc fn first G=>bif first.isEmpty then ZG E nid (.makeFunc fn first G) rt z else(match fn with
  |.func f=>bif G.isEmpty&&G5 (Zl.ofList (first.toList.map z)) then .ret (.fn (f+Wu) (Zl.ofList (first.toList.map z)),[]) else .ret (.junk,[])
  |_=>.ret (.junk,[]))
 |.load T a=>bif (z a).isPtD then(DM (z a)).bind fun v=>ZG E nid (.load T a) rt fun _=>v else(match z a with
  |.op id j=>.getH id fun
   |some (.vco C xs)=>bif E.ty T==some (.pn C) then .opt xs[j]? fun x=>.ret (.d (.pn C) x,[]) else .fail
   |_=>.fail
  |_=>ZG E nid op rt z)
 |.store T a x=>bif (Zb8 (E.ty T) ||W6 (E.ty T) &&E.zx T) && !(z x).isPtD then .opt (E.ty T) fun t=>(Ke t (z x)).bind fun r=>(match z a with
   |.ptr id p=>bif KC id r.2 then .fail else .getH id fun
    |some (.var L c)=>(Do L c p (.d t r.1)).bind fun N=>.ret (.junk,(r.2.map fun i=>(i,none))++[(id,some (.var L N))])
    |_=>.fail
   |_=>.fail) else ZG E nid op rt z
 |.binOp b T x y _=>(match z x,z y with
  |.d t p,.nilr true=>.opt (Zen (.d t p)) fun r=>bif E.ty T==some t then(match b with
   |.eql=>.ret (.d .bool r,[])
   |.neq=>.ret (.d .bool (!r),[])
   |_=>.fail) else .fail
  |.d (.pn t) p,.d (.pn J) q=>bif E.ty T==some (.pn t) &&J==t&& !Vc t.size 0 then(match b with
   |.eql=>.ret (.d .bool (decide (p.map Ve=q.map Ve)),[])
   |.neq=>.ret (.d .bool (!decide (p.map Ve=q.map Ve)),[])
   |_=>.fail) else .fail
  |u,.nils=>bif W6 (E.ty T) then(Zed u).bind fun r=>(match b with
   |.eql=>.ret (.d .bool r,[])
   |.neq=>.ret (.d .bool (!r),[])
   |_=>.fail) else ZG E nid op rt z
  |_,_=>ZG E nid op rt z)
 |op=>ZG E nid op rt z
end
end Tr
end
section
namespace Tr
open Go
theorem Zgk{w:World}{I i:Nat->Prop}{t:Ty}(m:∀(x y:El t) (c:List Value),Rd w I t x c->Rd w i t y c->x=y):∀(xs d:List (El t)) (css b:List (List Value)),Fa (Rd w I t) xs css->Fa (Rd w i t) d b->xs.length=d.length->css.flatten=b.flatten->xs=d
 |[],[],_,_,_,_,_,_=>rfl
 |[],_::_,_,_,_,_,h,_=>by simp at h
 |_::_,[],_,_,_,_,h,_=>by simp at h
 |x::xs,y::d,[],_,h,_,_,_=>by simp [Fa]at h
 |x::xs,y::d,_::_,[],_,h,_,_=>by simp [Fa]at h
 |x::xs,y::d,c::css,j::b,h,f,n,k=>by simp only[Fa]at h f;simp only[Vna]at k;have e:c.length=j.length:=(Rd.length t x c h.1).trans (Rd.length t y j f.1).symm;obtain⟨rfl,p⟩:=Vu k e;rw[m x y c h.1 f.1,Zgk m xs d css b h.2 f.2 (by simpa using n) p]
theorem Zko{w:World}{b off:Nat}{l m:List Value}(h:Kp w b off l)(c:Kp w b off m)(f:l.length=m.length):l=m:=by refine List.ext_getElem f fun j d e=>?_;have:=(h j d).symm.trans (c j e);exact Option.some.inj this
theorem Zlq{w:World}{I j:Nat->Prop}{a b:Ty}(q:∀(x y:El a) (c:List Value),Rd w I a x c->Rd w j a y c->x=y)(r:∀(x y:El b) (c:List Value),Rd w I b x c->Rd w j b y c->x=y):
 ∀(x y:List (El a×El b)) (cs:List Value),Xm w I (Rd w I a) (Rd w I b) x cs->Xm w j (Rd w j a) (Rd w j b) y cs->x=y
 |[],[],_,_,_=>rfl
 |[],y::l,cs,h,d=>by
  simp only[Xm]at h d;obtain⟨_,_,_,_,_,e,_⟩:=d
  rw[h]at e;simp at e
 |x::l,[],cs,h,d=>by
  simp only[Xm]at h d;obtain⟨_,_,_,_,_,e,_⟩:=h
  rw[d]at e;simp at e
 |x::l,y::m,cs,h,d=>by simp only[Xm]at h d;obtain⟨p,off,D,cl,G,e,_,R,K,L,M⟩:=h;obtain⟨Y,N,s,O,z,f,_,A,k,i,n⟩:=d;rw[e]at f;simp only[List.cons.injEq,Vja.injEq,Option.some.injEq,Addr.mk.injEq,and_true]at f;obtain⟨rfl,rfl⟩:=f;obtain⟨u,rfl⟩:=Xm.length L;obtain⟨Z,rfl⟩:=Xm.length i;have J:=(Rd.length a x.1 D K).trans (Rd.length a y.1 s k).symm;have Q:=(Rd.length b x.2 G M).trans (Rd.length b y.2 z n).symm;have S:=Zko R A (by simp [J,Q]);obtain⟨rfl,C⟩:=Vu S J;obtain⟨U,rfl⟩:=Vu C (by simp);rw[<-U]at i;have V:=q x.1 y.1 D K k;have W:=r x.2 y.2 G M n;have X:=Zlq q r l m _ L i;rw[X,show x=y from Vza V W]
theorem Rd.det{w:World}{I M:Nat->Prop} :∀(t:Ty) (x y:El t) (cs:List Value),Rd w I t x cs->Rd w M t y cs->x=y
 |.int _,x,y,cs,h,d=>by
  simp only[Rd]at h d;rw[h]at d;simp at d
  exact d
 |.bool,x,y,cs,h,d=>by
  simp only[Rd]at h d;rw[h]at d;simp at d
  exact d
 |.str,x,y,cs,h,d=>by
  simp only[Rd]at h d;rw[h]at d;simp at d
  exact d
 |.sl t,x,y,cs,h,d=>by
  simp only[Rd]at h d;obtain⟨a,cap,s,j,z,r,_⟩:=h;obtain⟨S,J,m,i,k,f,_⟩:=d;rw[j]at i;simp only[List.cons.injEq,Vab.injEq,and_true]at i;obtain⟨rfl,A,rfl⟩:=i;by_cases G:x=[]
  ·subst G
   cases y with
   |nil=>rfl
   |cons b l=>simp at A
  ·obtain⟨b,off,rfl,_,R⟩:=r G;obtain⟨N,L,K,_,D⟩:=f (fun e=>G (by subst e;cases x with|nil=>rfl|cons _ _=>simp at A));simp only[Option.some.injEq,Addr.mk.injEq,and_true]at K;obtain⟨rfl,rfl⟩:=K;refine Zgk (fun x y c p q=>Rd.det t x y c p q) x y s m z k A (Zko R D ?_)
   rw[Jy (Rd.all_length z),Jy (Rd.all_length k), <-z.length, <-k.length,A]
 |.unit,_,_,_,_,_=>rfl
 |.prod a b,x,y,cs,h,d=>by
  simp only[Rd]at h d;obtain⟨U,V,rfl,z,r⟩:=h;obtain⟨W,X,i,k,f⟩:=d;obtain⟨rfl,rfl⟩:=Vu i ((Rd.length a _ _ z).trans (Rd.length a _ _ k).symm)
  exact Vza (Rd.det a _ _ _ z k) (Rd.det b _ _ _ r f)
 |.arr n t,x,y,cs,h,d=>by
  simp only[Rd]at h d;obtain⟨j,s,rfl,r⟩:=h;obtain⟨i,m,k,f⟩:=d
  exact Zgk (fun x y c p q=>Rd.det t x y c p q) x y s m r f (j.trans i.symm) k
 |.ref,_,_,_,h,_=>h.elim
 |.pt t,x,y,cs,h,d=>by
  simp only[Rd]at h d
  cases x with
  |none=>cases y with
   |none=>rfl
   |some y=>
    simp only[Y6]at h d;obtain⟨_,_,_,j,_⟩:=d
    rw[h]at j;simp at j
  |some x=>cases y with
   |none=>
    simp only[Y6]at h d;obtain⟨_,_,_,j,_⟩:=h
    rw[d]at j;simp at j
   |some y=>
    simp only[Y6]at h d;obtain⟨b,c,e,j,_,r,C⟩:=h;obtain⟨N,O,Q,i,_,f,u⟩:=d;rw[j]at i;simp only[List.cons.injEq,Vja.injEq,Option.some.injEq,Addr.mk.injEq,and_true]at i;obtain rfl:=i;rw[r]at f;injection f with f;injection f with f;subst f
    exact congrArg some (Rd.det t x y _ C u)
 |.lk a b,x,y,cs,h,d=>by
  simp only[Rd]at h d
  exact Zlq (fun x y c p q=>Rd.det a x y c p q) (fun x y c p q=>Rd.det b x y c p q) x y cs h d
 |.pn t,x,y,cs,h,d=>by
  simp only[Rd]at h d
  cases x with
  |none=>cases y with
   |none=>rfl
   |some y=>
    simp only[Yp]at h d;obtain⟨_,_,j,_⟩:=d
    rw[h]at j;simp at j
  |some x=>cases y with
   |none=>
    simp only[Yp]at h d;obtain⟨_,_,j,_⟩:=h
    rw[d]at j;simp at j
   |some y=>
    simp only[Yp]at h d;obtain⟨c,e,j,_,r,C⟩:=h;obtain⟨O,Q,i,_,f,u⟩:=d;rw[j]at i;simp only[List.cons.injEq,Vja.injEq,Option.some.injEq,Addr.mk.injEq,and_true]at i;rw[<-i,r]at f;injection f with f;injection f with f;subst f;exact congrArg some (Vza i (Rd.det t x.2 y.2 _ C u))
end Tr
end
section
namespace Tr
open Go
noncomputable section
structure AS where
 F:Nat->AV
 H:AH
 nx:Nat
 fz:List Nat
def Xi(F:Nat->AV)(n:Nat)(v:AV):Nat->AV:=fun k=>bif Vc k n then v else F k
def WL(F:Nat->AV)(d:Option Nat)(v:AV):Nat->AV:=match d with
 |some n=>Xi F n v
 |none=>F
def Zbe:AV:=.tup .nil
def Zn(H:AH):Kq->AH
 |[]=>H
 |p::l=>Zn (ZO H p.1 p.2) l
inductive Ex where
 |normal
 |exit (id:Nat)
 |ret
 |jump (l:Nat)
def Ex.beq:Ex->Ex->Bool
 |.normal,.normal=>true
 |.exit a,.exit b=>Vc a b
 |.ret,.ret=>true
 |.jump a,.jump b=>Vc a b
 |_,_=>false
def W7{σ τ:Type}(step:σ->Option (σ ⊕ τ)):Nat->σ->Option τ
 |0,_=>none
 |n+1,s=>match step s with
  |some (.inl b)=>W7 step n b
  |some (.inr r)=>some r
  |none=>none
open Classical in
noncomputable def run{σ τ:Type}(step:σ->Option (σ ⊕ τ))(s:σ):Option τ:=
 match W7 step 100000 s with
 |some r=>some r
 |none=>if h:∃r n,W7 step n s=some r then some h.choose else none
def Y2{σ τ ρ:Type}(cnt:σ->Nat)(step:σ->Nat->Option (σ ⊕ τ))(k:τ->Option ρ)(z:ρ):Nat->σ->Prop
 |0,_=>False
 |n+1,s=>∀i,i<cnt s->(∃b,step s i=some (.inl b)/\Y2 cnt step k z n b)\/ ∃t,step s i=some (.inr t)/\k t=some z
def ZbP{σ τ ρ:Type}(cnt:σ->Nat)(step:σ->Nat->Option (σ ⊕ τ))(k:τ->Option ρ):Nat->σ->Option ρ
 |0,_=>none
 |n+1,s=>bif Vw (cnt s) 1 then(match step s 0 with
  |some (.inl b)=>ZbP cnt step k n b
  |some (.inr t)=>k t
  |none=>none) else none
open Classical in
noncomputable def drun{σ τ ρ:Type}(cnt:σ->Nat)(step:σ->Nat->Option (σ ⊕ τ))(k:τ->Option ρ)(s:σ):Option ρ:=
 match ZbP cnt step k 1000 s with
 |some r=>some r
 |none=>if h:∃z n,Y2 cnt step k z n s then some h.choose else none
structure K3 where
 i:Nat
 rd:List Nat
 wr:List Nat
def Yy(E:Z3):Option Nat->Bool
 |some d=>Vg d E.nt&& !KC d E.ks
 |none=>true
def Yv(E:Z3)(ops:Array Oper)(base:Nat)(fz:List Nat)(ρ:Type):List (Oper×Nat)->(Nat->AV)->AH->List K3->((Nat->AV)->AH->List K3->Option ρ)->Option ρ
 |[],F,H,c,k=>k F H c
 |(o,i)::rest,F,H,c,k=>
  let go:=fun(F:Nat->AV)=>bif Yy E o.dst then
   (WD E (base+i*E.stp) o.op o.type (Zt F)).runK H [] fun r rd=>
     bif JJ (r.2.map Ve) fz then
      Yv E ops base fz ρ rest (WL F o.dst r.1) (Zn H r.2) (⟨i,rd,r.2.map Ve⟩::c) k else none else none
  let skip:=fun(F:Nat->AV)=>bif Yy E o.dst then Yv E ops base fz ρ rest (WL F o.dst Zbe) H c k else none
  match o.guard with
  |none=>go F
  |some (j,want)=>match (ops[j]?).bind (·.dst) with
   |none=>none
   |some g=>match F g with
    |.d .bool b=>bif b then(bif want then go (Xi F g (.d .bool true)) else skip (Xi F g (.d .bool true)))
      else(bif want then skip (Xi F g (.d .bool false)) else go (Xi F g (.d .bool false)))
    |.tup .nil=>skip F
    |_=>none
def R4:List Operand->List Nat
 |[]=>[]
 |.tmp t::l=>t::R4 l
 |_::l=>R4 l
def Gk(ops:Array Oper)(o:Oper):List Nat:=
 (match o.guard with
   |some (j,_)=>((ops[j]?).bind (·.dst)).toList
   |none=>[])++R4 o.op.operands.toList
def ZeA(ops:Array Oper)(a b:Oper):Bool:=
 (match a.dst with
   |some d=> !KC d (Gk ops b) && (match b.dst with|some e=> !Vc d e|none=>true)
   |none=>true) &&
 (match b.dst with
   |some d=> !KC d (Gk ops a)
   |none=>true)
def XT(i:Nat):List K3->Option K3
 |[]=>none
 |t::l=>bif Vc t.i i then some t else XT i l
def Zmk(c:List K3)(i j:Nat):Bool:=
 match XT i c,XT j c with
 |some a,some b=>JJ a.wr b.rd&&JJ a.wr b.wr&&JJ b.wr a.rd
 |_,_=>true
def ZeO(ops:Array Oper):List (Nat×Nat):=
 let b:=Region.before ops
 (Vp ops.size).flatMap fun j=>(Vp j).filterMap fun i=>if (b.getD j 0).testBit i then none else some (i,j)
def ZtD(ops:Array Oper):Bool:=(ZeO ops).all fun p=>match ops[p.1]?,ops[p.2]? with
 |some a,some b=>ZeA ops a b
 |_,_=>true
def Zgc(ops:Array Oper):Bool:=ops.toList.zipIdx.all fun p=>p.1.after.all fun e=> !Region.binds .any e||Vg e.on p.2
def Zay(ops:Array Oper)(b:List K3):Bool:=
 Zgc ops&&ZtD ops&& (b.all (fun t=>t.wr.isEmpty) || (ZeO ops).all fun p=>Zmk b p.1 p.2)
@[reducible] def ElT:List (Nat×Ty)->Type
  |[]=>Unit
  |[(_,t)]=>El t
  |(_,t)::p::l=>El t×ElT (p::l)
def ZaV(F:Nat->AV):(l:List (Nat×Ty))->Option (ElT l)
 |[]=>some ()
 |[(n,t)]=>(match F n with
  |.d b x=>Kl b t x
  |_=>none)
 |(n,t)::p::l=>(match F n with
  |.d b x=>(Kl b t x).bind fun y=>(ZaV F (p::l)).bind fun z=>some (y,z)
  |_=>none)
def inT(F:Nat->AV):(l:List (Nat×Ty))->ElT l->Nat->AV
 |[],_=>F
 |[(n,t)],x=>Xi F n (.d t x)
 |(n,t)::p::l,x=>inT (Xi F n (.d t x.1)) (p::l) x.2
def ZgD(l:List Nat)(F:Nat->AV):Nat->AV:=fun k=>bif KC k l then .junk else F k
def ZdE(ops:List Oper):List Nat:=ops.filterMap (·.dst)
def Zha(E:Z3)(ops:Array Oper)(draw:Bool)(outs:Option (List (Nat×Ty)))(ρ:Type)(s:AS)(k:AS->Option ρ):Option ρ:=
 let nx:=s.nx+ops.size*E.stp
 match outs with
 |none=>Yv E ops s.nx s.fz ρ ops.toList.zipIdx s.F s.H [] fun F H b=>bif !draw||Zay ops b then k ⟨F,H,nx,s.fz⟩ else none
 |some l=>(Yv E ops s.nx s.fz (ElT l) ops.toList.zipIdx s.F s.H [] fun F _ b=>bif (!draw||Zay ops b) &&b.all (fun t=>t.wr.isEmpty) then ZaV F l else none).bind
   fun x=>k ⟨inT (ZgD (ZdE ops.toList) s.F) l x,s.H,nx,s.fz⟩
structure WA where
 roots:List (Nat×Pat)
 fns:List (Nat×FuncId×List Nat):=[]
 kept:List Nat:=[]
 als:List (Nat×Nat):=[]
 kf:List (Nat×Nat×Nat):=[]
 kv:List Nat:=[]
@[reducible] def WV:List (Nat×Pat)->Type
  |[]=>Unit
  |[(_,p)]=>KP p
  |(_,p)::q::l=>KP p×WV (q::l)
def Rx(F:Nat->AV):(l:List (Nat×Pat))->Zq (WV l×Zz)
 |[]=>.ret ((),Zz.none)
 |[(n,p)]=>ext p (F n)
 |(n,p)::q::l=>(ext p (F n)).bind fun x=>(Rx F (q::l)).bind fun y=>.ret ((x.1,y.1),x.2.app y.2)
def Wr:(l:List (Nat×Pat))->WV l->Nat->List (Nat×AV) ×List (Nat×KO) ×Nat
 |[],_,n=>([],[],n)
 |[(m,p)],x,n=>let r:=inj p x n;([(m,r.1)],r.2.1,r.2.2)
 |(m,p)::q::l,x,n=>let r:=inj p x.1 n;let s:=Wr (q::l) x.2 r.2.2;((m,r.1)::s.1,r.2.1++s.2.1,s.2.2)
def DU:List (Nat×AV)->Nat->AV
 |[],_=>.junk
 |p::l,k=>bif Vc k p.1 then p.2 else DU l k
def Ws:List (Nat×KO)->AH
 |[],_=>none
 |p::l,k=>bif Vc k p.1 then some p.2 else Ws l k
def AV.box? :AV->Option Nat
 |.ptr id []=>some id
 |_=>none
def G4(F:Nat->AV):Zl->List Nat->Bool
 |.nil,[]=>true
 |.cons v l,n::m=>(match v.box?,(F n).box? with
  |some a,some b=>Vc a b
  |_,_=>false) &&G4 F l m
 |_,_=>false
def ZbZ(F:Nat->AV):List (Nat×FuncId×List Nat)->Bool
 |[]=>true
 |(n,f,l)::m=>(match F n with
  |.fn c b=>Vc c f&&G4 F b l
  |_=>false) &&ZbZ F m
def Zc3(F:Nat->AV):List (Nat×FuncId×List Nat)->Nat->AV
 |[]=>F
 |(n,f,l)::m=>Xi (Zc3 F m) n (.fn f (Zl.ofList (l.map F)))
def Zfs(x y:AV):Bool:=match x,y with
 |.vw a,.vw b=>Vc a b
 |.mp a,.mp b=>Vc a b
 |.ptr a [],.ptr b []=>Vc a b
 |.nils,.nils=>true
 |_,_=>false
def ZbA(F:Nat->AV):List (Nat×Nat)->Bool
 |[]=>true
 |p::l=>Zfs (F p.1) (F p.2) &&ZbA F l
def Zc2(F:Nat->AV):List (Nat×Nat)->Nat->AV
 |[]=>F
 |p::l=>Xi (Zc2 F l) p.1 (F p.2)
def AV.boxes:Zl->List Nat
 |.nil=>[]
 |.cons v l=>v.box?.toList++AV.boxes l
def Zl.ls:Zl->List AV
 |.nil=>[]
 |.cons v l=>v::l.ls
def G8(H:AH):Nat->AV->List Nat
 |0,_=>[]
 |n+1,v=>match v with
  |.ptr id []=>id::(match H id with
   |some (.var _ c)=>G8 H n c
   |_=>[])
  |.vw id=>[id]
  |.nw id _ _ _=>[id]
  |.mp id=>[id]
  |.agg l=>l.ls.flatMap (G8 H n)
  |_=>[]
def H2(s:AS):List Nat->List Nat
 |[]=>[]
 |n::l=>(match s.F n with
  |.fn _ b=>AV.boxes b
  |v=>G8 s.H 8 v)++H2 s l
def Xe(H:AH)(id:Nat):Bool:=match H id with
 |some (.var _ _)=>true
 |some (.vec _ _)=>true
 |some (.map _ _ _)=>true
 |some (.rows _ _ _ none)=>true
 |some (.mrows _ _ _ _ none)=>true
 |some (.rng _ _ _ _)=>true
 |some (.dat _ _)=>true
 |some (.bld _ _ _)=>true
 |some (.vco _ _)=>true
 |_=>false
def Zdc(H:AH):Zl->Bool
 |.nil=>true
 |.cons v l=>(match v with
  |.ptr id []=>Xe H id
  |.dp _ _=>true
  |.d _ _=>true
  |_=>false) &&Zdc H l
def HH(s:AS):List Nat->Bool
 |[]=>true
 |n::l=>(match s.F n with
  |.d _ _=>true
  |.dp _ _=>true
  |.nilr _=>true
  |.nils=>true
  |.ptr id []=>(G8 s.H 8 (.ptr id [])).all (Xe s.H)
  |.vw id=>Xe s.H id
  |.nw id _ _ _=>Xe s.H id
  |.mp id=>Xe s.H id
  |.fn _ b=>Zdc s.H b
  |_=>false) &&HH s l
def ZZ(b:AS)(e:WA):List Nat:=H2 b e.kept++b.fz
def K6(E:Z3)(e:WA):Z3:= {E with ks:=e.kept++(e.kv++E.ks)}
def Zg1(fz:List Nat)(e:WA)(s:AS):Option (WV e.roots):=
 (Rx s.F e.roots).runK s.H [] fun r _=>bif r.2.ok fz&&JJ r.2.br fz&&ZbZ s.F e.fns&&ZbA s.F e.als then some r.1 else none
def ZaN(b:AS)(fz:List Nat)(e:WA)(x:WV e.roots):AS:=
 let r:=Wr e.roots x b.nx
 ⟨Zc2 (Zc3 (fun k=>bif KC k e.kept then b.F k else DU r.1 k) e.fns) e.als,fun id=>bif KC id (ZZ b e) then b.H id else Ws r.2.1 id,r.2.2,fz⟩
def Hk(s:AS)(k:Nat×Nat×Nat):Option Nat:=match s.F k.1 with
 |.ptr id []=>(match s.H id with
  |some (.var T (.agg c))=>(match c.nth k.2.1 with
   |some (.vw a)=>bif Vc (DX T k.2.1) k.2.2 then some a else none
   |_=>none)
  |_=>none)
 |_=>none
def Zca(b s:AS):List (Nat×Nat×Nat)->Bool
 |[]=>true
 |k::l=>(match Hk b k,Hk s k with
  |some x,some y=>Vc x y
  |_,_=>false) &&Zca b s l
def Di(b:AS)(fz:List Nat)(k:Nat×Nat×Nat)(s:AS):AS:=match Hk b k,Hk s k,s.F k.1 with
 |some a,some d,.ptr id []=>(match s.H id,s.H d,b.H a with
  |some (.var T (.agg c)),some (.vec t xs),some (.vec e _)=>bif e==t&& !Vc d id&& !Vc a id&& !KC a fz&& !KC d fz&& !KC id fz then
    {s with H:=ZO (ZO (ZO (ZO s.H d none) id none) a (some (.vec t xs))) id (some (.var T (.agg (c.putNth k.2.1 (.vw a)))))} else s
  |_,_,_=>s)
 |_,_,_=>s
def D0(b:AS)(fz:List Nat):List (Nat×Nat×Nat)->AS->AS
 |[],s=>s
 |k::l,s=>D0 b fz l (Di b fz k s)
def Zfp(b:AS):List Nat->(Nat->AV)->Nat->AV
 |[],F=>F
 |n::l,F=>Zfp b l (Xi F n (b.F n))
def Xw(b:AS)(fz:List Nat)(e:WA)(s:AS):Option (WV e.roots):=bif Zca b s e.kf then Zg1 fz e s else none
def JY(b:AS)(fz:List Nat)(e:WA)(x:WV e.roots):AS:=
 let s:=D0 b (ZZ b e) e.kf (ZaN b fz e x)
 ⟨Zfp b e.kv s.F,s.H,s.nx,fz⟩
abbrev Ht:=List (Ex×WA)
@[reducible] def XV:Ht->Type
  |[]=>Empty
  |[e]=>WV e.2.roots
  |e::f::l=>WV e.2.roots ⊕ XV (f::l)
def Yc(b:AS)(fz:List Nat):(J:Ht)->Ex->AS->Option (XV J)
 |[],_,_=>none
 |[e],x,s=>bif x.beq e.1 then Xw b fz e.2 s else none
 |e::f::l,x,s=>bif x.beq e.1 then(Xw b fz e.2 s).bind fun y=>some (.inl y) else(Yc b fz (f::l) x s).bind fun y=>some (.inr y)
def GL{ρ:Type}(b:AS):(J:Ht)->XV J->(Ex->AS->Option ρ)->Option ρ
 |[],_,_=>none
 |[e],y,k=>k e.1 (JY b b.fz e.2 y)
 |e::f::l,y,k=>match y with
  |.inl y=>k e.1 (JY b b.fz e.2 y)
  |.inr y=>GL b (f::l) y k
def WA.slots(e:WA):List Nat:=e.roots.map Ve++e.fns.map Ve++e.kept
def HG(e:WA):Ht->Bool
 |[]=>true
 |f::l=>f.2.kept.all (fun n=>KC n e.kept) &&f.2.kv.all (fun n=>KC n e.kv) &&HL f.2.slots&&HG e l
inductive KR where
 |leaf
 |seq (a b:KR)
 |cnd (J:Option (WA×Ht)) (a b:KR)
 |lp (e:WA) (J:Ht) (h:KR)
 |lpd (it:Nat) (e:WA) (J:Ht) (h:KR)
 |reg (outs:List (Nat×Ty))
 |all (n:Nat)
 |det (n:Nat) (a b:KR)
def KR.l:KR->KR
 |.seq a _=>a
 |.det _ a _=>a
 |.cnd _ a _=>a
 |.all n=>.all n
 |_=>.leaf
def KR.r:KR->KR
 |.seq _ b=>b
 |.det _ _ b=>b
 |.cnd _ _ b=>b
 |.all n=>.all n
 |_=>.leaf
def KR.dt:KR->Option Nat
 |.det n _ _=>some n
 |_=>none
def Zf1(n:Nat){ρ:Type}(s:AS)(go:AS->Option ρ):Option ρ:=match s.F n with
 |.nw id ver b k=>bif KC id s.fz then none else(XZ id ver b k).runK s.H [] fun r _=>(Zc0 id s.nx b k).runK s.H [] fun o _=>
   go ⟨Xi s.F n (.vw s.nx),ZO (ZO s.H id (some o)) s.nx (some (.vec r.1 r.2)),s.nx+1,s.fz⟩
 |_=>none
def Zf2(h:KR){ρ:Type}(s:AS)(go:AS->Option ρ):Option ρ:=match h.dt with
 |none=>go s
 |some n=>Zf1 n s go
def KR.join:KR->Option (WA×Ht)
 |.cnd J _ _=>J
 |_=>none
def KR.outs:KR->Option (List (Nat×Ty))
 |.reg l=>some l
 |_=>none
def Dl(it:Nat)(s:AS):Nat:=match s.F it with
 |.ptr id []=>(match s.H id with
  |some (.rng _ _ rest _)=>bif rest.isEmpty then 1 else rest.length
  |_=>1)
 |_=>1
def RS(E:Z3)(ops:Array Oper)(it i:Nat)(ρ:Type)(s:AS)(k:AS->Option ρ):Option ρ:=
 match ops.toList.zipIdx with
 |[]=>none
 |(o,_)::l=>(match o.op,o.guard,o.dst with
  |.next (.tmp b) false,none,some d=>bif Vc b it&&Yy E (some d) then(match s.F it with
   |.ptr id []=>(match s.H id with
    |some (.rng c f rest _)=>bif KC id s.fz then none else
      bif rest.isEmpty then Yv E ops s.nx s.fz ρ l (WL s.F (some d) (.tup (.cons (.d .bool false) .nil))) s.H [] fun F H _=>k ⟨F,H,s.nx+ops.size*E.stp,s.fz⟩
      else(rest[i]?).bind fun e=>Yv E ops s.nx s.fz ρ l (WL s.F (some d) (.tup (.cons (.d .bool true) (.cons (.d c e.1) (.cons (.d f e.2) .nil)))))
       (ZO s.H id (some (.rng c f (rest.eraseIdx i) (some e)))) [] fun F H _=>k ⟨F,H,s.nx+ops.size*E.stp,s.fz⟩
    |_=>none)
   |_=>none) else none
  |_,_,_=>none)
def ZcC{ρ:Type}(f:AS->(Ex->AS->Option ρ)->Option ρ)(k:Ex->AS->Option ρ):Nat->AS->Option ρ
 |0,_=>none
 |n+1,s=>f s fun e b=>match e with
  |.normal=>ZcC f k n b
  |e=>k e b
noncomputable def Kj:Code->KR->Z3->(ρ:Type)->AS->(Ex->AS->Option ρ)->Option ρ
 |.skip,_,_,_,s,k=>k .normal s
 |.label _,_,_,_,s,k=>k .normal s
 |.scope c,h,E,ρ,s,k=>Kj c h E ρ s fun e f=>match e with
  |.jump _=>none
  |e=>k e f
 |.goto l,_,_,_,s,k=>k (.jump l) s
 |.region _ ops draw,h,E,ρ,s,k=>Zha E ops draw h.outs ρ s (k .normal)
 |.seq a b,h,E,ρ,s,k=>Zf2 h s fun s=>Kj a h.l E ρ s fun e f=>match e with
  |.normal=>Kj b h.r E ρ f k
  |e=>k e f
 |.cond c a b,h,E,ρ,s,k=>match Zt s.F c with
  |.d .bool t=>(match h.join with
   |none=>bif t then Kj a h.l E ρ s k else Kj b h.r E ρ s k
   |some (e,J)=>bif HH s e.kept&&HG e J then
     (let j:AS:= {s with fz:=ZZ s e}
      bif t then Kj a h.l (K6 E e) (XV J) j (Yc s (ZZ s e) J) else Kj b h.r (K6 E e) (XV J) j (Yc s (ZZ s e) J)).bind fun o=>GL s J o k
    else none)
  |_=>none
 |.block id c,h,E,ρ,s,k=>Kj c h E ρ s fun e f=>match e with
  |.exit i=>bif Vc i id then k .normal f else k (.exit i) f
  |e=>k e f
 |.loop c,h,E,ρ,s,k=>match h with
  |.all n=>ZcC (fun s k=>Kj c (.all n) E ρ s k) k n s
  |.lp en J m=>bif HH s en.kept&&HG en J&&HL en.slots then
    (Xw s (ZZ s en) en s).bind fun x=>(run (fun y=>Kj c m (K6 E en) (WV en.roots ⊕ XV J) (JY s (ZZ s en) en y) fun e f=>match e with
      |.normal=>(Xw s (ZZ s en) en f).bind fun z=>some (.inl z)
      |e=>(Yc s (ZZ s en) J e f).bind fun z=>some (.inr z)) x).bind fun o=>GL s J o k
   else none
  |.lpd it en J m=>(match c with
   |.seq (.region _ ops false) p=>bif HH s en.kept&&HG en J&&HL en.slots then
     (Xw s (ZZ s en) en s).bind fun x=>drun (fun y=>Dl it (JY s (ZZ s en) en y)) (fun y i=>RS (K6 E en) ops it i (WV en.roots ⊕ XV J) (JY s (ZZ s en) en y) fun j=>Kj p m (K6 E en) (WV en.roots ⊕ XV J) j fun e f=>match e with
       |.normal=>(Xw s (ZZ s en) en f).bind fun z=>some (.inl z)
       |e=>(Yc s (ZZ s en) J e f).bind fun z=>some (.inr z)) (fun o=>GL s J o k) x
    else none
   |_=>none)
  |_=>none
 |.exit id,_,_,_,s,k=>k (.exit id) s
 |.ret,_,_,_,s,k=>k .ret s
 |_,_,_,_,_,_=>none
def Zl.toF:Zl->Nat->AV
 |.nil,_=>Zbe
 |.cons v _,0=>v
 |.cons _ l,n+1=>l.toF n
mutual
def Pat.back:Pat->Bool
 |.own _ k=>k
 |.var _ _=>true
 |.map _ _=>true
 |.rows _ k=>k
 |.mrows _ _=>true
 |.bld _ _ k=>k
 |.fnd _ _ _ _=>true
 |.agg l=>l.back
 |.fn _ l=>l.back
 |_=>false
def Pats.back:Pats->Bool
 |.nil=>false
 |.cons p l=>p.back||l.back
end
mutual
def Zgd:(p:Pat)->KP p
 |.pd t=>zeroEl t
 |.own _ _=>[]
 |.var _ p=>Zgd p
 |.ro t=>zeroEl t
 |.map _ _=>[]
 |.rows _ _=>[]
 |.mrows _ _=>[]
 |.it _ _=>[]
 |.bld _ _ _=>[]
 |.fnd tn tq lt _=>(zeroEl tn,zeroEl tq,zeroEl lt,[],[],[])
 |.owo _=>[]
 |.agg l=>Zge l
 |.fn _ l=>Zge l
 |.nilr=>()
 |.nils=>()
 |.any=>()
def Zge:(l:Pats)->Kn l
 |.nil=>()
 |.cons p l=>(Zgd p,Zge l)
end
mutual
def outDef:(p:Pat)->Hv p
 |.own _ true=>[]
 |.own _ false=>()
 |.var _ p=>Zgd p
 |.map _ _=>[]
 |.rows _ true=>[]
 |.rows _ false=>()
 |.mrows _ _=>[]
 |.it _ _=>()
 |.bld _ _ true=>[]
 |.bld _ _ false=>()
 |.fnd tn tq lt _=>(zeroEl tn,zeroEl tq,zeroEl lt,[],[],[])
 |.owo _=>()
 |.agg l=>ZgZ l
 |.fn _ l=>ZgZ l
 |.pd _=>()
 |.ro _=>()
 |.nilr=>()
 |.nils=>()
 |.any=>()
def ZgZ:(l:Pats)->KY l
 |.nil=>()
 |.cons p l=>(outDef p,ZgZ l)
end
def ZfF:Pat->AV->Bool
 |.pd t,v=>v.fits t
 |.own t _,v=>v.fits (.sl t)
 |.rows t _,v=>v.fits (.sl (.sl t))
 |.owo b,v=>v.fits (.sl (.pn b))
 |.agg _,_=>true
 |.fn _ _,_=>true
 |.any,_=>false
 |.nils,v=>v.fits (.sl .unit)
 |_,v=>v.fits .ref
mutual
def Ja:(p:Pat)->AV->Zq (Hv p×Zz)
 |.own t true,.vw id=>.getH id fun
  |some (.vec b xs)=>.opt (Kl (.sl b) (.sl t) xs) fun y=>.ret (y,⟨[id],[]⟩)
  |_=>.fail
 |.own _ false,_=>.ret ((),Zz.none)
 |.var t p,.ptr id []=>.getH id fun
  |some (.var b c)=>bif b==t&&p.fits t then(ext p c).bind fun r=>.ret (r.1,⟨id::r.2.tk,r.2.br⟩) else .fail
  |_=>.fail
 |.map d q,.mp id=>.getH id fun
  |some (.map k e m)=>.opt (Kl (.sl (.prod k e)) (.sl (.prod d q)) m) fun y=>.ret (y,⟨[id],[]⟩)
  |_=>.fail
 |.rows t true,.vw id=>.getH id fun
  |some (.rows b xs _ none)=>.opt (Kl (.sl (.sl b)) (.sl (.sl t)) xs) fun y=>.ret (y,⟨[id],[]⟩)
  |_=>.fail
 |.rows _ false,_=>.ret ((),Zz.none)
 |.mrows d t,.mp id=>.getH id fun
  |some (.mrows k b m _ none)=>.opt (Kl (.sl (.prod k (.sl b))) (.sl (.prod d (.sl t))) m) fun y=>.ret (y,⟨[id],[]⟩)
  |_=>.fail
 |.it _ _,_=>.ret ((),Zz.none)
 |.bld T e true,.ptr id []=>.getH id fun
  |some (.bld h j i)=>bif Vc h T&&Vc j e then .ret (i,⟨[id],[]⟩) else .fail
  |_=>.fail
 |.bld _ _ false,_=>.ret ((),Zz.none)
 |.fnd tn tq lt lb,.ptr id []=>ext (.fnd tn tq lt lb) (.ptr id [])
 |.agg l,.agg vs=>RX l vs
 |.fn f l,.fn n vs=>bif Vc n f then RX l vs else .fail
 |.owo _,_=>.ret ((),Zz.none)
 |.pd _,_=>.ret ((),Zz.none)
 |.ro _,_=>.ret ((),Zz.none)
 |.nilr,_=>.ret ((),Zz.none)
 |.nils,_=>.ret ((),Zz.none)
 |.any,_=>.ret ((),Zz.none)
 |_,_=>.fail
def RX:(l:Pats)->Zl->Zq (KY l×Zz)
 |.nil,.nil=>.ret ((),Zz.none)
 |.cons p l,.cons v vs=>bif ZfF p v then(Ja p v).bind fun x=>(RX l vs).bind fun y=>.ret ((x.1,y.1),x.2.app y.2) else .fail
 |_,_=>.fail
end
def ZaX:(l:Pats)->Zl->Zq (KY l×Zz)
 |.nil,_=>.ret ((),Zz.none)
 |.cons p l,.cons v vs=>bif p.back then(Ja p v).bind fun x=>(ZaX l vs).bind fun y=>.ret ((x.1,y.1),x.2.app y.2)
   else(ZaX l vs).bind fun y=>.ret ((outDef p,y.1),y.2)
 |_,_=>.fail
def R0(E:Z3)(s:AS):List ResultVar->Zq Zl
 |[]=>.ret .nil
 |.tmp t::l=>(R0 E s l).bind fun vs=>.ret (.cons (s.F t) vs)
 |.cell a T::l=>.opt (E.ty T) fun t=>(match s.F a with
  |.ptr id p=>.getH id fun
   |some (.var _ c)=>(HF c p).bind fun v=>bif v.fits t&&v.solid then(R0 E s l).bind fun vs=>.ret (.cons v vs) else .fail
   |_=>.fail
  |_=>.fail)
def Xq:Pats->Nat->List Nat
 |.nil,_=>[]
 |.cons p l,n=>(bif p.back then [n] else [])++Xq l (n+1)
def Pats.len:Pats->Nat
 |.nil=>0
 |.cons _ l=>l.len+1
def ZcA(F:Nat->AV):Pats->Nat->Zl
 |.nil,_=>.nil
 |.cons _ l,n=>.cons (F n) (ZcA F l (n+1))
def X3(E:Z3)(results:Array ResultVar)(args res:Pats)(fz:List Nat)(e:Ex)(s:AS):Option (KY args×Kn res):=
 match e with
 |.exit _=>none
 |.jump _=>none
 |_=>((R0 E s results.toList).bind fun vs=>(Wl res vs).bind fun r=>(ZaX args (ZcA s.F args 0)).bind fun o=>.ret ((o.1,r.1),o.2.app r.2)).runK s.H [] fun r _=>
   bif r.2.ok fz&&JJ r.2.br fz then some r.1 else none
def H3(ks:List Nat)(f:Zl)(e:AH)(s:AS):List (Nat×Nat×Nat)->Bool
 |[]=>true
 |k::l=>(match f.nth k.1,s.F k.1 with
  |some (.ptr id []),.ptr d []=>(match e id,s.H d with
   |some (.var T (.agg c)),some (.var h (.agg i))=>(match c.nth k.2.1,i.nth k.2.1 with
    |some (.vw a),some (.vw b)=>Vc a b&&h==T&&Vc (DX T k.2.1) k.2.2&&KC k.1 ks
    |_,_=>false)
   |_,_=>false)
  |_,_=>false) &&H3 ks f e s l
noncomputable def XO(E:Z3)(body:Code)(results:Array ResultVar)(h:KR)(args res:Pats){α:Type}(pack:KY args×Kn res->α)(x:Kn args)(kp:List (Nat×Nat×Nat):=[]):Option α:=
 let r:=Z4 args x 0
 Kj body h {E with ks:=Xq args 0} α ⟨r.1.toF,Ws r.2.1,r.2.2,[]⟩ fun e s=>
  (X3 E results args res [] e s).bind fun y=>bif H3 (Xq args 0) r.1 (Ws r.2.1) s kp then some (pack y) else none
def mkE(b:List (Nat×Ty))(ms:List (Nat×Ty×Ty))(pks:List (Nat×Nat))(rws zxs:List Nat)(m:List (Nat×List Spec))(nt:Nat)(bds:List (Nat×Nat):=[]):Z3:=
 {ty:=fun n=>b.lookup n,mty:=fun n=>ms.lookup n,pk:=fun n=>(pks.lookup n).getD 0,rw:=fun n=>rws.contains n,zx:=fun n=>zxs.contains n,bd:=fun n=>bds.lookup n,specs:=fun n=>(m.lookup n).getD [],nt:=nt,ks:=[] }
def KM(f:Func):Code:=match f.body with
 |some b=>b
 |none=>.skip
end
end Tr
end
section
namespace Tr
open Go
def H7(agg:Bool)(cs:List Value):Value:=if agg then .agg cs.toArray else cs.headD undef
theorem Rd.oneCell{w:World}{I:Nat->Prop} :∀(t:Ty) (x:El t) (cs:List Value),Rd w I t x cs->∀v∈cs,v.oneCell' =true
 |.int _,_,_,h=>by rw[h];simp [Vb]
 |.bool,_,_,h=>by rw[h];simp [Vb]
 |.str,_,_,h=>by rw[h];simp [Vb]
 |.sl t,x,cs,h=>by
  obtain⟨a,cap,f,e,_⟩:=h
  rw[e];simp [Vb]
 |.unit,_,_,h=>by rw[h];simp
 |.prod a b,x,cs,h=>by
  obtain⟨q,r,e,i,j⟩:=h;rw[e];intro v d;rcases Vga.1 d with d|d
  ·exact Rd.oneCell a _ _ i v d
  ·exact Rd.oneCell b _ _ j v d
 |.arr n t,x,cs,h=>by
  obtain⟨e,f,i,j⟩:=h;rw[i];intro v d;obtain⟨c,k,d⟩:=List.mem_flatten.1 d
  exact j.all_right (p:=fun c=>∀v∈c,v.oneCell' =true) (fun y c m=>Rd.oneCell t y c m) c k v d
 |.ref,_,_,h=>h.elim
 |.pt t,x,cs,h=>by obtain⟨a,rfl⟩:=Y6.length h;simp [Vb]
 |.lk a b,x,cs,h=>by obtain⟨p,rfl⟩:=Xm.length h;simp [Vb]
 |.pn t,x,cs,h=>by obtain⟨a,rfl⟩:=Yp.length h;simp [Vb]
mutual
theorem CV.oneCell{w:World}{g:Gh} :∀(a:AV) (cs:List Value),a≠ .junk->CV w g a cs->(∀t,a.fits t=true->∀v∈cs,v.oneCell' =true)
 |.d t x,cs,_,h,_,_=>Rd.oneCell t x cs (by simpa only[CV] using h)
 |.junk,_,h,_,_,_=>absurd rfl h
 |.tup _,_,_,h,_,_=>by simp [CV]at h
 |.agg l,cs,_,h,t,r=>Z2.oneCell l cs (by simpa only[CV] using h) t (by simpa only[AV.fits] using r)
 |.dp t x,cs,_,h,_,_=>by simp only[CV]at h;obtain⟨b,off,c,e,_⟩:=h;rw[e];simp [Vb]
 |.ptr id p,cs,_,h,_,_=>by simp only[CV]at h;obtain⟨_,o,t,b,_,_,j⟩:=h;rw[j];simp [Vb]
 |.vw id,cs,_,h,t,r=>by simp only[CV]at h;rw[h.2.1];intro v q;simp at q;rw[q];exact h.2.2
 |.vs id lo n,cs,_,h,_,_=>by
  simp only[CV]at h
  rcases h.2 with ⟨_,_,_,h⟩|⟨b,len,cap,m,_,_,_,_,h⟩<;>rw[h]<;>simp [Vb]
 |.vp id i p,cs,_,h,_,_=>by simp only[CV]at h;obtain⟨_,o,t,b,_,_,j⟩:=h;rw[j];simp [Vb]
 |.op id i,cs,_,h,_,_=>by simp only[CV]at h;obtain⟨_,b,off,len,cap,_,j⟩:=h;rw[j];simp [Vb]
 |.mp id,cs,_,h,_,_=>by simp only[CV]at h;obtain⟨_,b,_,j⟩:=h;rw[j];simp [Vb]
 |.fn f l,cs,_,h,_,_=>by simp only[CV]at h;obtain⟨D,e,_⟩:=h;rw[e];simp [ZqJ]
 |.nilr p,cs,_,h,_,_=>by
  have h:=ZaT h;rcases h with h|h|h<;>rw[h]<;>simp [Vb]
 |.nils,cs,_,h,_,_=>by simp only[CV]at h;rw[h];simp [Vb]
 |.jk n,cs,_,h,_,_=>by simp only[CV]at h;exact h.2
 |.nw id ver C k,cs,_,h,_,_=>by simp only[CV]at h;obtain⟨_,_,v,e,s,_⟩:=h;rw[e];intro u y;simp at y;rw[y];exact s
 |.np id ver C k i p,cs,_,h,_,_=>by simp only[CV]at h;obtain⟨_,_,a,e,_⟩:=h;rw[e];simp [Vb]
theorem Z2.oneCell{w:World}{g:Gh} :∀(l:Zl) (cs:List Value),Z2 w g l cs->(∀t,l.fits t=true->∀v∈cs,v.oneCell' =true)
 |.nil,cs,h,_,_=>by simp only[Z2]at h;rw[h];simp
 |.cons a l,cs,h,t,r=>by
  simp only[Z2]at h;obtain⟨z,A,e,s,j⟩:=h
  cases t<;>simp only[Zl.fits,Va,Vf]at r
  rw[e];intro v q;rcases Vga.1 q with q|q
  ·refine CV.oneCell a z ?_ s _ r.1 v q;rintro rfl;simp [AV.fits]at r
  ·exact Z2.oneCell l A j _ r.2 v q
end
mutual
theorem CV.length{w:World}{g:Gh} :∀(a:AV) (t:Ty) (cs:List Value),a.fits t=true->CV w g a cs->cs.length=t.size
 |.d k x,t,cs,b,h=>by
  simp only[AV.fits,Kd]at b;subst b
  exact Rd.length _ _ _ (by simpa only[CV] using h)
 |.junk,_,_,b,_=>by simp [AV.fits]at b
 |.tup _,_,_,b,_=>by simp [AV.fits]at b
 |.agg l,t,cs,b,h=>Z2.length l t cs (by simpa only[AV.fits] using b) (by simpa only[CV] using h)
 |.jk n,t,cs,b,h=>by
  simp only[AV.fits,Kd]at b
  simp only[CV]at h;rw[h.1,b]
 |.dp _ _,t,cs,b,h=>by
  cases t<;>simp [AV.fits]at b
  all_goals (simp only[CV]at h;obtain⟨_,_,_,c,_⟩:=h;rw[c];rfl)
 |.ptr _ _,t,cs,b,h=>by
  cases t<;>simp [AV.fits]at b
  all_goals (simp only[CV]at h;obtain⟨_,_,_,_,_,_,c⟩:=h;rw[c];rfl)
 |.vp _ _ _,t,cs,b,h=>by
  cases t<;>simp [AV.fits]at b
  simp only[CV]at h;obtain⟨_,_,_,_,_,_,c⟩:=h;rw[c];rfl
 |.op _ _,t,cs,b,h=>by simp [AV.fits]at b
 |.mp _,t,cs,b,h=>by
  cases t<;>simp [AV.fits]at b
  simp only[CV]at h;obtain⟨_,_,_,c⟩:=h;rw[c];rfl
 |.fn _ _,t,cs,b,h=>by
  cases t<;>simp [AV.fits]at b
  simp only[CV]at h;obtain⟨_,c,_⟩:=h;rw[c];rfl
 |.nilr p,t,cs,b,h=>by
  cases t<;>simp [AV.fits]at b
  all_goals (have h:=ZaT h;rcases h with h|h|h<;>rw[h]<;>rfl)
 |.vw _,t,cs,b,h=>by
  cases t<;>simp [AV.fits]at b
  simp only[CV]at h;rw[h.2.1];rfl
 |.vs _ _ _,t,cs,b,h=>by
  cases t<;>simp [AV.fits]at b
  simp only[CV]at h;rcases h.2 with ⟨_,_,_,c⟩|⟨_,_,_,_,_,_,_,_,c⟩<;>rw[c]<;>rfl
 |.nils,t,cs,b,h=>by
  cases t<;>simp [AV.fits]at b
  simp only[CV]at h;rw[h];rfl
 |.nw _ _ _ _,t,cs,b,h=>by
  cases t<;>simp [AV.fits]at b
  simp only[CV]at h;obtain⟨_,_,v,c,_⟩:=h;rw[c];rfl
 |.np _ _ _ _ _ _,t,cs,b,h=>by
  cases t<;>simp [AV.fits]at b
  simp only[CV]at h;obtain⟨_,_,a,c,_⟩:=h;rw[c];rfl
theorem Z2.length{w:World}{g:Gh} :∀(l:Zl) (t:Ty) (cs:List Value),l.fits t=true->Z2 w g l cs->cs.length=t.size
 |.nil,t,cs,b,h=>by
  cases t<;>simp [Zl.fits]at b
  simp only[Z2]at h;rw[h];rfl
 |.cons a l,t,cs,b,h=>by
  cases t<;>simp only[Zl.fits,Va,Vf]at b
  simp only[Z2]at h;obtain⟨e,f,c,i,j⟩:=h;rw[c,Vi,CV.length a _ e b.1 i,Z2.length l _ f b.2 j];rfl
end
theorem Kv{t b:Ty}{x:El t}{y:El b}(h:Kl t b x=some y):∃e:t=b,y=e▸x:=by
 unfold Kl at h
 grind
theorem Zdh{t:Ty}{x y:El t}(h:Kl t t x=some y):y=x:=by obtain⟨e,h⟩:=Kv h;omega
theorem DQ{css:List (List Value)}{i:Nat}{c:List Value}(h:css[i]? =some c)(n:Nat)(e:∀c∈css,c.length=n):
 css.flatten=(css.take i).flatten++c++(css.drop (i+1)).flatten/\(css.take i).flatten.length=i*n/\
 ∀c',(css.set i c').flatten=(css.take i).flatten++c' ++(css.drop (i+1)).flatten:=by
 obtain⟨b,rfl⟩:=Vaa.1 h;refine⟨?_,?_,fun c' =>?_⟩
 ·rw[<-List.flatten_append_singleton_flatten b]
 ·rw[Jy fun c d=>e c (List.mem_of_mem_take d),List.length_take,Nat.min_eq_left (Nat.le_of_lt b)]
 ·rw[List.set_eq_take_append_cons_drop,Zr b];simp
where
 List.flatten_append_singleton_flatten {css:List (List Value)}{i:Nat} (b:i<css.length):css.flatten=(css.take i).flatten++css[i]++(css.drop (i+1)).flatten:=by
  have f:css=css.take i++css.drop i:=by simp
  have j:css.drop i=css[i]::css.drop (i+1):=List.drop_eq_getElem_cons b
  grind
def At(t:Ty)(p:List Nat)(c:Ty)(cs b:List Value):Prop:= ∃o pre post,ZM t p=some (o,c)/\cs=pre++b++post/\pre.length=o
theorem ZdU{w:World}{I:Nat->Prop}{H:AH} :∀(p:List Nat) (t:Ty) (x:El t) (l l' :List Nat) (r:DV) (cs:List Value),(X8 t x p).run H l=some (r,l')->Rd w I t x cs->
 l' =l/\ ∃j,At t p r.1 cs j/\Rd w I r.1 r.2 j:=by
 intro p t
 induction t generalizing p with
 |prod a b D G=>
  intro x l l' r cs h s;obtain⟨j,A,C,m,k⟩:=s
  match p with
  |[]=>
   simp only[X8,Zq.run,Option.some.injEq,Vd]at h;obtain⟨rfl,rfl⟩:=h
   exact⟨rfl,cs,⟨0,[],[],rfl,by simp,rfl⟩,j,A,C,m,k⟩
  |0::p=>
   simp only[X8]at h;obtain⟨e,d,⟨o,pre,post,u,J,z⟩,q⟩:=D p x.1 l l' r j h m
   exact⟨e,d,⟨o,pre,post++A,by assumption,by grind,z⟩,q⟩
  |(n+1)::p=>
   simp only[X8]at h;obtain⟨e,d,⟨o,pre,post,u,J,z⟩,q⟩:=G (n::p) x.2 l l' r A h k;refine⟨e,d,⟨o+a.size,j++pre,post,by simp [ZM,u],by grind,?_⟩,q⟩
   rw[Vi,Rd.length a _ _ m,z];omega
 |arr n t O=>
  intro x l l' r cs h s;obtain⟨C,f,m,k⟩:=s
  match p with
  |[]=>
   simp only[X8,Zq.run,Option.some.injEq,Vd]at h;obtain⟨rfl,rfl⟩:=h
   exact⟨rfl,cs,⟨0,[],[],rfl,by simp,rfl⟩,C,f,m,k⟩
  |i::p=>
   simp only[X8,Zq.run]at h
   cases K:(x:List (El t))[i]? with
   |none=>grind
   |some y=>
    rw[K]at h;simp only[Za]at h;obtain⟨c,L,N⟩:=k.get i y K;obtain⟨e,d,⟨o,pre,post,u,J,z⟩,q⟩:=O p y l l' r c h N;obtain⟨Q,R,_⟩:=DQ L t.size (Rd.all_length k)
    have M:i<n:=by
     grind
    refine⟨e,d,⟨o+i*t.size,(f.take i).flatten++pre,post++(f.drop (i+1)).flatten,by simp [ZM,M,u],by grind,?_⟩,q⟩
    grind
 |_=>
  intro x l l' r cs h s
  match p with
  |[]=>
   simp only[X8,Zq.run,Option.some.injEq,Vd]at h;obtain⟨rfl,rfl⟩:=h
   exact⟨rfl,cs,⟨0,[],[],rfl,by simp,rfl⟩,s⟩
  |_::_=>simp [X8,Zq.run]at h
theorem Zez{w:World}{I:Nat->Prop}{H:AH} :∀(p:List Nat) (t:Ty) (x:El t) (l l' :List Nat) (y:DV) (z:El t) (cs d:List Value),(J4 t x p y).run H l=some (z,l')->Rd w I t x cs->Rd w I y.1 y.2 d->
 l' =l/\ ∃o pre A post,ZM t p=some (o,y.1)/\cs=pre++A++post/\pre.length=o/\A.length=d.length/\Rd w I t z (pre++d++post):=by
 intro p t
 induction t generalizing p with
 |prod a b O Q=>
  intro x l l' y z cs d h J r;obtain⟨A,M,N,C,m⟩:=J
  match p with
  |[]=>
   simp only[J4,Zq.run]at h
   cases f:Kl y.1 (.prod a b) y.2 with
   |none=>grind
   |some X=>
    rw[f]at h;simp only[Za,Option.some.injEq,Vd]at h;obtain⟨rfl,rfl⟩:=h;obtain⟨V,W⟩:=y;obtain⟨e,j⟩:=Kv f;simp only at e;subst e;have j:=j;subst j;refine⟨rfl,0,[],cs,[],rfl,by simp,rfl,?_,by grind⟩
    rw[Rd.length _ _ _ r,N,Vi,Rd.length a _ _ C,Rd.length b _ _ m];rfl
  |0::p=>
   simp only[J4,Zq.run_bind]at h
   cases s:(J4 a x.1 p y).run H l with
   |none=>grind
   |some q=>
    rw[s]at h;simp only[Za,Zq.run,Option.some.injEq,Vd]at h;obtain⟨rfl,rfl⟩:=h;obtain⟨e,o,pre,k,post,K,S,L,D,G⟩:=O p x.1 l q.2 y q.1 A d s C r
    exact⟨e,o,pre,k,post++M,by assumption,by grind,L,D,pre++d++post,M,by simp,G,m⟩
  |(n+1)::p=>
   simp only[J4,Zq.run_bind]at h
   cases s:(J4 b x.2 (n::p) y).run H l with
   |none=>grind
   |some q=>
    rw[s]at h;simp only[Za,Zq.run,Option.some.injEq,Vd]at h;obtain⟨rfl,rfl⟩:=h;obtain⟨e,o,pre,k,post,K,S,L,D,G⟩:=Q (n::p) x.2 l q.2 y q.1 M d s m r;refine⟨e,o+a.size,A++pre,k,post,by simp [ZM,K],by grind,?_,D,A,pre++d++post,by simp,C,G⟩
    rw[Vi,Rd.length a _ _ C,L];omega
 |arr n t ih=>
  intro x l l' y z cs d h J r;obtain⟨N,u,C,m⟩:=J
  match p with
  |[]=>
   simp only[J4,Zq.run]at h
   cases f:Kl y.1 (.arr n t) y.2 with
   |none=>grind
   |some X=>
    rw[f]at h;simp only[Za,Option.some.injEq,Vd]at h;obtain⟨rfl,rfl⟩:=h;obtain⟨V,W⟩:=y;obtain⟨e,j⟩:=Kv f;simp only at e;subst e;have j:=j;subst j;refine⟨rfl,0,[],cs,[],rfl,by simp,rfl,?_,by grind⟩
    rw[Rd.length _ _ _ r,C,Jy (Rd.all_length m), <-m.length,N];rfl
  |i::p=>
   simp only[J4,Zq.run]at h
   cases U:(x:List (El t))[i]? with
   |none=>grind
   |some R=>
    rw[U]at h;simp only[Za,Zq.run_bind]at h
    cases s:(J4 t R p y).run H l with
    |none=>grind
    |some q=>
     rw[s]at h;simp only[Za,Zq.run,Option.some.injEq,Vd]at h;obtain⟨rfl,rfl⟩:=h;obtain⟨c,f,Z⟩:=m.get i R U;obtain⟨e,o,pre,k,post,K,S,L,D,G⟩:=ih p R l q.2 y q.1 c d s Z r;obtain⟨s1,s2,s3⟩:=DQ f t.size (Rd.all_length m)
     have Y:i<n:=by
      grind
     refine⟨e,o+i*t.size,(u.take i).flatten++pre,k,post++(u.drop (i+1)).flatten,by simp [ZM,Y,K],by grind,?_,D,?_,u.set i (pre++d++post),?_,m.set i G⟩
     all_goals grind
 |_=>
  intro x l l' y z cs d h J r
  match p with
  |[]=>
   simp only[J4,Zq.run]at h
   cases f:Kl y.1 _ y.2 with
   |none=>rw[f]at h;grind
   |some X=>
    rw[f]at h;simp only[Za]at h;obtain⟨rfl,rfl⟩:=Vk (Option.some.inj h);obtain⟨V,W⟩:=y;obtain⟨e,j⟩:=Kv f;simp only at e;subst e;have j:=j;subst j;refine⟨rfl,0,[],cs,[],rfl,by simp,rfl,?_,by grind⟩
    rw[Rd.length _ _ _ r,Rd.length _ _ _ J]
  |_::_=>simp [J4,Zq.run]at h
theorem ZqW{w:World}{g:Gh}{H:AH} :∀(l:Zl) (t:Ty) (n:Nat) (p:List Nat) (k b:List Nat) (v:AV) (cs:List Value),
 (∀(a:AV) (t:Ty) (p k b:List Nat) (v:AV) (cs:List Value),sizeOf a<sizeOf l->(HF a p).run H k=some (v,b)->a.fits t=true->CV w g a cs->b=k/\ ∃c f,At t p c cs f/\v.fits c=true/\CV w g v f)->
 (ZaM l n p).run H k=some (v,b)->l.fits t=true->Z2 w g l cs->b=k/\ ∃c f,At t (n::p) c cs f/\v.fits c=true/\CV w g v f:=by
 intro l
 induction l using Zl.rec (motive_1:=fun _=>True) with
 |nil=>intro t n p k b v cs _ h;simp [ZaM,Zq.run]at h
 |cons a l _ D=>
  intro t n p k b v cs i h j y
  cases t<;>simp only[Zl.fits,Va,Vf]at j
  rename_i z G;simp only[Z2]at y;obtain⟨f,s,I,u,A⟩:=y
  cases n with
  |zero=>
   simp only[ZaM]at h;obtain⟨e,c,d,⟨o,pre,post,x,C,m⟩,q,r⟩:=i a z p k b v f (by grind) h j.1 u
   exact⟨e,c,d,⟨o,pre,post++s,by assumption,by grind,m⟩,q,r⟩
  |succ n=>
   simp only[ZaM]at h;obtain⟨e,c,d,⟨o,pre,post,x,C,m⟩,q,r⟩:=D G n p k b v s (by grind) h j.2 A;refine⟨e,c,d,⟨o+z.size,f++pre,post,by simp [ZM,x],by grind,?_⟩,q,r⟩
   rw[Vi,CV.length a _ _ j.1 u,m];omega
 |_=>trivial
theorem ZqV{w:World}{g:Gh}{H:AH}(N:Nat):∀(a:AV) (_:sizeOf a<N) (t:Ty) (p k c:List Nat) (v:AV) (cs:List Value),(HF a p).run H k=some (v,c)->a.fits t=true->CV w g a cs->
 c=k/\ ∃j b,At t p j cs b/\v.fits j=true/\CV w g v b:=by
 induction N with
 |zero=>omega
 |succ N u=>
 intro a z t p k c v cs h f s
 match p with
 |[]=>
  have:HF a []=.ret a:=by cases a<;>rfl
  rw[this]at h;obtain⟨rfl,rfl⟩:=Vk (Option.some.inj h)
  exact⟨rfl,t,cs,⟨0,[],[],by cases t<;>rfl,by simp,rfl⟩,f,s⟩
 |n::p=>
  cases a with
  |d m x=>
   simp only[AV.fits,Kd]at f;subst f;simp only[HF,Zq.run_bind]at h
   cases i:(X8 m x (n::p)).run H k with
   |none=>grind
   |some q=>
    rw[i]at h;simp only[Za,Zq.run]at h;obtain⟨rfl,rfl⟩:=Vk (Option.some.inj h);obtain⟨e,b,r,y⟩:=ZdU (n::p) m x k q.2 q.1 cs i (by assumption)
    exact⟨e,q.1.1,b,r,by simp [AV.fits],by assumption⟩
  |agg l=>
   simp only[HF]at h
   exact ZqW l t n p k c v cs (by grind) h (by assumption) (by assumption)
  |_=>simp [HF,Zq.run]at h
theorem ZdT{w:World}{g:Gh}{H:AH}{a:AV}{t:Ty}{p k b:List Nat}{v:AV}{cs:List Value}(h:(HF a p).run H k=some (v,b))(f:a.fits t=true)(e:CV w g a cs):
 b=k/\ ∃d c,At t p d cs c/\v.fits d=true/\CV w g v c:=ZqV (sizeOf a+1) a (by omega) t p k b v cs h f e
theorem Zjy{w:World}{g:Gh} :∀(t:Ty) (x:El t) (cs:List Value),(X4 t x).fits t=true->Rd w g.I t x cs->Z2 w g (X4 t x) cs:=by
 intro t
 induction t with
 |prod a b _ i=>
  intro x cs c h;obtain⟨d,e,f,j,k⟩:=h;simp only[X4,Zl.fits,Va]at c;simp only[X4,Z2]
  exact⟨d,e,f,by assumption,by grind⟩
 |unit=>intro x cs _ h;assumption
 |_=>intro x cs c;simp [X4,Zl.fits]at c
structure Put (t:Ty) (p:List Nat) (cs d:List Value) (o:Nat) (pre c1 post:List Value) (t1:Ty):Prop where
 off:ZM t p=some (o,t1)
 cs:cs=pre++c1++post
 len:pre.length=o
 eq:c1.length=d.length
theorem ZlS{w:World}{g:Gh}{H:AH} :∀(l:Zl) (t:Ty) (n:Nat) (p k z:List Nat) (v:AV) (m:Zl) (cs d:List Value),
 (YX t l n p v).run H k=some (m,z)->l.fits t=true->Z2 w g l cs->CV w g v d->z=k/\ ∃o pre c post f,Put t (n::p) cs d o pre c post f/\m.fits t=true/\Z2 w g m (pre++d++post):=by
 intro l
 induction l using Zl.rec (motive_1:=fun _=>True) with
 |nil=>intro t n p k z v m cs d h;cases t<;>simp [YX,Zq.run]at h
 |cons a l _ U=>
  intro t n p k z v m cs d h b N I
  cases t<;>simp only[Zl.fits,Va,Vf]at b
  rename_i i O;simp only[Z2]at N;obtain⟨c,j,V,A,C⟩:=N
  cases n with
  |zero=>
   match p with
   |[]=>
    simp only[YX]at h
    cases u:v.fits i with
    |false=>rw[u]at h;simp [Zq.run]at h
    |true=>
     rw[u]at h;obtain⟨rfl,rfl⟩:=Vk (Option.some.inj (by assumption))
     refine⟨rfl,0,[],c,j,i,⟨by cases i<;>rfl,by grind,rfl,?_⟩,by simp [Zl.fits,u,b.2],d,j,by simp,I,C⟩
     rw[CV.length a i c b.1 A,CV.length v i d u I]
   |q::p=>
    cases a with
    |d K x=>
     have S:K=i:=by simpa [AV.fits] using b.1
     subst S
     cases v with
     |d f y=>
      simp only[YX,Zq.run_bind]at h
      cases s:(J4 K x (q::p) ⟨f,y⟩).run H k with
      |none=>grind
      |some r=>
       rw[s]at h;obtain⟨rfl,rfl⟩:=Vk (Option.some.inj (by assumption));obtain⟨e,o,pre,J,post,L,Q,D,G,M⟩:=Zez (q::p) K x k r.2 ⟨f,y⟩ r.1 c d s (by assumption) (by assumption)
       exact⟨e,o,pre,J,post++j,f,⟨by assumption,by grind,D,G⟩,by simp [Zl.fits,AV.fits,b.2],pre++d++post,j,by simp,by assumption,C⟩
     |_=>simp [YX,Zq.run]at h
    |_=>simp [YX,Zq.run]at h
  |succ n=>
   simp only[YX,Zq.run_bind]at h
   cases s:(YX O l n p v).run H k with
   |none=>grind
   |some r=>
    rw[s]at h;obtain⟨rfl,rfl⟩:=Vk (Option.some.inj (by assumption));obtain⟨e,o,pre,J,post,f,⟨L,Q,D,G⟩,M,R⟩:=U O n p k r.2 v r.1 j d s b.2 C I;refine⟨e,o+i.size,c++pre,J,post,f,⟨by simp [ZM,L],by grind,?_,G⟩,by simp [Zl.fits,b.1,M],c,pre++d++post,by simp,A,R⟩
    rw[Vi,CV.length a _ _ b.1 A,D];omega
 |_=>trivial
theorem K0(t:Ty):ZM t []=some (0,t):=by cases t<;>rfl
theorem ZlR{w:World}{g:Gh}{H:AH}{t:Ty}{c:AV}{p k A:List Nat}{v c' :AV}{cs d:List Value}(h:(Do t c p v).run H k=some (c',A))(O:c.fits t=true)(R:CV w g c cs)(D:CV w g v d)
 (m:cs.length=t.size):A=k/\ ∃o pre C post f,Put t p cs d o pre C post f/\c'.fits t=true/\CV w g c' (pre++d++post):=by
 match p with
 |[]=>
  simp only[Do]at h
  cases z:v.fits t with
  |false=>rw[z]at h;simp [Zq.run]at h
  |true=>
   rw[z]at h;obtain⟨rfl,rfl⟩:=Vk (Option.some.inj (by assumption));refine⟨rfl,0,[],cs,[],t,⟨K0 t,by simp,rfl,?_⟩,z,by grind⟩
   rw[m,CV.length v t d z D]
 |n::q=>
  cases c with
  |agg l=>
   simp only[Do,Zq.run_bind]at h
   cases i:(YX t l n q v).run H k with
   |none=>grind
   |some r=>
    rw[i]at h;obtain⟨rfl,rfl⟩:=Vk (Option.some.inj (by assumption));obtain⟨e,o,pre,s,post,f,j,G,N⟩:=ZlS l t n q k r.2 v r.1 cs d i (by assumption) (by assumption) D
    exact⟨e,o,pre,s,post,f,j,by assumption,by assumption⟩
  |d b x=>
   have Q:b=t:=by simpa [AV.fits] using O
   subst Q;have J:Rd w g.I b x cs:=by assumption
   have other:(bif (X4 b x).fits b then(YX b (X4 b x) n q v).bind fun l=>.ret (.agg l) else Zq.fail:Zq AV).run H k=some (c',A)->
    A=k/\ ∃o pre C post f,Put b (n::q) cs d o pre C post f/\c'.fits b=true/\CV w g c' (pre++d++post):=by
    intro h
    cases u:(X4 b x).fits b with
    |false=>rw[u]at h;simp [Zq.run]at h
    |true=>
     rw[u]at h;simp only[Zc,Zq.run_bind]at h
     cases i:(YX b (X4 b x) n q v).run H k with
     |none=>grind
     |some r=>
      rw[i]at h;obtain⟨rfl,rfl⟩:=Vk (Option.some.inj (by assumption));obtain⟨e,o,pre,s,post,f,j,G,N⟩:=ZlS _ b n q k r.2 v r.1 cs d i u (Zjy b x cs u J) D;exact⟨e,o,pre,s,post,f,j,by assumption,by assumption⟩
   cases v with
   |d f y=>
    simp only[Do,Zq.run_bind]at h
    cases i:(J4 b x (n::q) ⟨f,y⟩).run H k with
    |none=>grind
    |some r=>
     rw[i]at h;obtain⟨rfl,rfl⟩:=Vk (Option.some.inj (by assumption));obtain⟨e,o,pre,s,post,j,K,L,M,G⟩:=Zez (n::q) b x k r.2 ⟨f,y⟩ r.1 cs d i J (by assumption)
     exact⟨e,o,pre,s,post,f,⟨j,K,L,M⟩,by assumption,by assumption⟩
   |_=>exact other h
  |_=>simp [Do,Zq.run]at h
end Tr
end
section
namespace Tr
open Go
def ZeW(f:List Value->Bool)(size:Nat):Nat->List Value->Bool
 |0,cs=>cs.isEmpty
 |n+1,cs=>f (cs.take size) &&ZeW f size n (cs.drop size)
def YF:Ty->List Value->Bool
 |.int k,[.int c n]=>k==c&&n==0
 |.bool,[.bool b]=> !b
 |.str,[.string s]=>s.data.toList.isEmpty
 |.sl _,[.slice none 0 0]=>true
 |.pt _,[.pointer none]=>true
 |.lk _ _,[.pointer none]=>true
 |.pn _,[.pointer none]=>true
 |.unit,[]=>true
 |.prod a b,cs=>YF a (cs.take a.size) &&YF b (cs.drop a.size)
 |.arr n t,cs=>ZeW (YF t) t.size n cs
 |_,_=>false
def ZgA:List Value->Bool
 |[.pointer none]=>true
 |[.nilFunc]=>true
 |[.map none]=>true
 |_=>false
def ZgB:List Value->Bool
 |[.slice none 0 0]=>true
 |_=>false
def Dw:Ty->List Value->Bool
 |.prod a b,cs=>(bif a.data then YF a (cs.take a.size) else(match a with
   |.ref=>ZgA (cs.take 1)
   |.sl _=>ZgB (cs.take 1)
   |a=>(cs.take a.size).length==a.size&& (cs.take a.size).all Vb)) &&Dw b (cs.drop a.size)
 |.unit,cs=>cs.isEmpty
 |_,_=>false
def Gm(t:Ty)(cs:List Value):Bool:=
 bif t.data then YF t cs else match t with
  |.ref=>ZgA cs
  |.sl _=>ZgB cs
  |.prod a b=>Dw (.prod a b) cs
  |t=>cs.length==t.size&&cs.all Vb
theorem ZcE{w:World}{I:Nat->Prop} :∀(t:Ty) (cs:List Value),YF t cs=true->Rd w I t (zeroEl t) cs:=by
 intro t
 induction t with
 |int k=>
  intro cs h
  match cs,h with
  |[.int p n],h=>
   simp only[YF,Va,Kd]at h
   obtain⟨rfl,rfl⟩:=h;rfl
 |bool=>
  intro cs h
  match cs,h with
  |[.bool b],h=>simp only[YF,Vba]at h;subst h;rfl
 |str=>
  intro cs h
  match cs,h with
  |[.string s],h=>
   obtain⟨⟨l⟩⟩:=s;simp only[YF,Vda]at h
   subst h;rfl
 |sl t _=>
  intro cs h
  match cs,h with
  |[.slice none 0 0],_=>exact⟨none,0,[],rfl,trivial,fun h=>absurd rfl h,Vl _⟩
 |unit=>
  intro cs h
  match cs,h with
  |[],_=>rfl
 |prod a b d e=>
  intro cs h;simp only[YF,Va]at h
  exact⟨_,_,by simp,d _ h.1,e _ h.2⟩
 |arr n t m=>
  intro cs h;simp only[YF]at h;refine⟨by simp [zeroEl],?_⟩
  induction n generalizing cs with
  |zero=>
   simp only[ZeW,Vda]at h;subst h
   exact⟨[],rfl,by simp [zeroEl,Fa]⟩
  |succ n f=>
   simp only[ZeW,Va]at h;obtain⟨c,j,i⟩:=f _ h.2;refine⟨cs.take t.size::c,?_,?_⟩
   ·rw[Vna, <-j,Vha]
   ·simp only[zeroEl,List.replicate_succ]at i⊢
    exact⟨m _ h.1,i⟩
 |ref=>
  intro cs h
  simp [YF]at h
 |pt t _=>
  intro cs h
  match cs,h with
  |[.pointer none],_=>rfl
 |lk a b _ _=>
  intro cs h
  match cs,h with
  |[.pointer none],_=>rfl
 |pn t _=>
  intro cs h
  match cs,h with
  |[.pointer none],_=>rfl
theorem Zj8{w:World}{g:Gh}{cs:List Value}(h:ZgA cs=true):CV w g (.nilr false) cs:=by
 simp only[CV]
 match cs,h with
 |[.pointer none],_=>simp
 |[.nilFunc],_=>simp
 |[.map none],_=>simp
theorem Zd0{w:World}{g:Gh}{cs:List Value}(h:ZgB cs=true):CV w g .nils cs:=by
 simp only[CV]
 match cs,h with
 |[.slice none 0 0],_=>rfl
theorem ZmM{w:World}{g:Gh}{t:Ty}{cs:List Value}(h:YF (.sl t) cs=true):CV w g .nils cs:=by
 simp only[CV]
 match cs,h with
 |[.slice none 0 0],_=>rfl
theorem ZeX{w:World}{g:Gh} :∀(t:Ty) (cs:List Value),Dw t cs=true->Z2 w g (Gl false t) cs/\(Gl false t).fits t=true:=by
 intro t
 induction t with
 |prod a b _ f=>
  intro cs h;simp only[Dw,Va]at h;obtain⟨j,k⟩:=f _ h.2;simp only[Gl,Z2,Zl.fits,Va];have c:=h.1
  have key:CV w g (Y1 false a) (cs.take a.size)/\(Y1 false a).fits a=true:=by
   cases e:a.isSl with
   |true=>
    obtain⟨t,rfl⟩:∃t,a=.sl t:=by cases a<;>simp [Ty.isSl]at e;simp
    have i:Y1 false (.sl t)=.nils:=by simp [Y1,Ty.isSl,ZeZ]
    rw[i];refine⟨?_,rfl⟩
    cases d:(Ty.sl t).data with
    |true=>rw[d]at c;simp only[Zc]at c;exact ZmM c
    |false=>rw[d]at c;simp only[Ze]at c;exact Zd0 c
   |false=>
   unfold Y1
   cases d:a.data with
   |true=>
    rw[d]at c;simp only[e,Vua,Bool.or_true,Vwa,Zc]at c⊢
    exact⟨by simpa only[CV] using ZcE a _ c,by simp [AV.fits]⟩
   |false=>
    rw[d]at c;simp only[Vva,Ze]at c⊢
    cases a with
    |ref=>exact⟨Zj8 c,rfl⟩
    |sl t=>exact⟨Zd0 c,rfl⟩
    |_=>
     simp only[Va,Kd,Voa]at c;exact⟨by assumption,by simp [ZeZ,AV.fits]⟩
  exact⟨⟨_,_,by simp,key.1,j⟩,key.2,k⟩
 |unit=>
  intro cs h;simp only[Dw,Vda]at h;subst h
  exact⟨rfl,rfl⟩
 |_=>intro cs h;simp [Dw]at h
theorem ZeY{w:World}{g:Gh}{t:Ty}{cs:List Value}(h:Gm t cs=true):CV w g (XA t) cs/\(XA t).fits t=true:=by
 unfold Gm at h
 cases d:t.isSl with
 |true=>
  cases t<;>simp [Ty.isSl]at d
  rename_i t;have e:XA (.sl t)=.nils:=by simp [XA,Ty.isSl]
  rw[e];refine⟨?_,rfl⟩
  cases c:(Ty.sl t).data with
  |true=>rw[c]at h;simp only[Zc]at h;exact ZmM h
  |false=>rw[c]at h;simp only[Ze]at h;exact Zd0 h
 |false=>
 unfold XA
 cases c:t.data with
 |true=>
  rw[c]at h;simp only[d,Vua,Vwa,Zc]at h⊢
  exact⟨by simpa only[CV] using ZcE t _ h,by simp [AV.fits]⟩
 |false=>
  rw[c]at h;simp only[Vva,Ze]at h⊢
  cases t with
  |ref=>exact⟨Zj8 h,rfl⟩
  |sl t=>exact⟨Zd0 h,rfl⟩
  |prod a b=>
   obtain⟨f,i⟩:=ZeX (w:=w) (g:=g) _ _ h
   exact⟨by assumption,by assumption⟩
  |_=>
   simp only[Va,Kd,Voa]at h;exact⟨by assumption,by simp [AV.fits]⟩
theorem ZuB(t:Ty)(h:t.data=true\/(match t with|.arr _ _=>False|_=>True)):(XA t).isAgg=t.agg:=by
 unfold XA
 cases b:t.isSl with
 |true=>cases t<;>simp [Ty.isSl]at b;simp [AV.isAgg,Ty.agg]
 |false=>
 cases c:t.data with
 |true=>rfl
 |false=>
  rw[c]at h
  cases t<;>simp_all [AV.isAgg,Ty.agg,Ty.data]
theorem ZuC{w:World}{g:Gh}{t:Ty}{z:Value}(i:t.data=true)(h:Ki w g (XA t) z):Ki w g (.d t (zeroEl t)) z:=by
 cases b:t.isSl with
 |false=>
  have c:XA t=.d t (zeroEl t):=by simp [XA,i,b]
  grind
 |true=>
  cases t<;>simp [Ty.isSl]at b
  rename_i t;have c:XA (.sl t)=.nils:=by simp [XA,Ty.isSl]
  rw[c]at h;obtain⟨e,f⟩:=h;simp only[CV]at e;refine⟨?_,.inr ?_⟩
  ·simp only[CV];rw[e];exact⟨none,0,[],rfl,trivial,fun h=>absurd rfl h,Vl _⟩
  ·exact f.resolve_left (by simp)
def Ty.chain:Ty->Bool
 |.prod _ b=>b.chain
 |.unit=>true
 |_=>false
def Z6(θ:TypeId->Option Ty)(t:Ty)(d:Option TypeDesc):Bool:=
 match t,d with
 |.int k,some (.int h)=>k==h
 |.bool,some .bool=>true
 |.str,some .string=>true
 |.sl e,some (.slice E)=>θ E==some e
 |.arr n e,some (.array m E)=>n==m&&θ E==some e
 |.unit,some (.struct c)=>c.isEmpty
 |.prod a b,some (.struct c)=>(Vp c.size).all (fun f=>match c[f]? with
   |some fd=>match ZM (.prod a b) [f] with
    |some (o,i)=>fd.offset==o&&θ fd.type==some i&&fd.name != "_"
    |none=>false
   |none=>true) && (ZM (.prod a b) [c.size]).isNone&&b.chain
 |.pt e,some (.pointer E)=>θ E==some e
 |.pn e,some (.pointer E)=>θ E==some e
 |.lk a b,some (.pointer E)=>θ E==some (RU a b)
 |.ref,some (.pointer _)=>true
 |.ref,some (.func _ _ _)=>true
 |.ref,some (.map _ _)=>true
 |.ref,some (.interface _)=>true
 |_,_=>false
def ZlX(P:Program)(T:TypeId):Bool:=match P.underlying T with
 |some (.slice b)=>(match P.info? b with
  |some i=>Vw i.bytes 256
  |none=>false)
 |_=>true
def ZhG(P:Program)(θ:TypeId->Option Ty)(T:TypeId)(t:Ty):Bool:=
 match P.info? T with
 |some i=>ZlX P T&&i.size==t.size&&Vw i.bytes 4096&& (match i.zero with
   |some z=>Gm t z.cells.toList&&Z8 z==t.agg&& (t.data|| (match t with|.arr _ _=>false|_=>true))
   |none=>false) &&Z6 θ t (P.underlying T) && !P.stoodInHeld T&& !P.eqGuardType P.depth T
 |none=>false
structure W3 (P:Program) (θ:TypeId->Option Ty) (T:TypeId) (t:Ty):Prop where
 info:∃i z,P.info? T=some i/\i.size=t.size/\i.bytes<=4096/\i.zero=some z/\Gm t z.cells.toList=true/\Z8 z=t.agg
 small:∀Et i,P.underlying T=some (.slice Et)->P.info? Et=some i->i.bytes<=256
 zagg:(XA t).isAgg=t.agg
 shape:Z6 θ t (P.underlying T)=true
 stood:P.stoodInHeld T=false
 guard:P.eqGuardType P.depth T=false
theorem Zt7{P:Program}{θ:TypeId->Option Ty}{T:TypeId}{t:Ty}(h:ZhG P θ T t=true):W3 P θ T t:=by
 unfold ZhG at h;split at h
 ·rename_i i k;simp only[Va,Kd]at h;obtain⟨⟨⟨⟨⟨⟨d,e⟩,f⟩,b⟩,j⟩,r⟩,s⟩:=h
  have m:∀c i,P.underlying T=some (.slice c)->P.info? c=some i->i.bytes<=256:=fun c i p q=>by unfold ZlX at d;simp_all
  split at b
  ·rename_i z n;simp only[Va,Kd,Vsa]at b;refine⟨⟨i,z,k,e,Nat.le_of_ble_eq_true f,n,b.1.1,b.1.2⟩,m,ZuB t ?_,j,by grind,by grind⟩
   grind
  grind
 grind
section
variable {P:Program}{θ:TypeId->Option Ty}{T:TypeId}{t:Ty}
theorem W3.und(h:W3 P θ T t):∃d,P.underlying T=some d:=by
 have:=h.shape
 cases b:P.underlying T with
 |some d=>simp
 |none=>rw[b]at this;cases t<;>simp [Z6]at this
theorem W3.run_isAgg(h:W3 P θ T t)(w:World):(isAgg T).run P w=.ok t.agg w:=by
 obtain⟨d,b⟩:=h.und;have c:=h.shape;rw[b]at c;simp only[isAgg,underlying,Vn,run_program,Vj,b,Vs]
 cases t<;>cases d<;>simp_all [Z6,Ty.agg]
theorem W3.run_sizeOf(h:W3 P θ T t)(w:World):(Go.sizeOf T).run P w=.ok t.size w:=by obtain⟨i,z,b,c,_⟩:=h.info;simp only[Go.sizeOf,typeInfo,Vn,run_program,Vj,b,Vs,c]
theorem W3.run_zero(h:W3 P θ T t)(w:World):∃z,(zeroValue T).run P w=.ok z w/\ ∀w g,Ki w g (XA t) z/\(XA t).fits t=true:=by
 obtain⟨i,z,c,f,j,d,b,e⟩:=h.info;refine⟨z,?_,fun w g=>⟨⟨(ZeY b).1,.inr ?_⟩,(ZeY (w:=w) (g:=g) b).2⟩⟩
 ·simp only[zeroValue,typeInfo,Vn,run_program,Vj,c,Vs,d]
 ·rw[h.zagg,e]
theorem ZuE:∀(t:Ty) (cs:List Value),t.chain=true->t.data=true->YF t cs=true->Dw t cs=true:=by
 intro t
 induction t with
 |prod a b _ d=>
  intro cs e c h;simp only[Ty.data,Va]at c;simp only[YF,Va]at h;simp only[Dw,c.1,Zc,Va]
  exact⟨h.1,d _ (by assumption) c.2 h.2⟩
 |unit=>
  intro cs _ _ h
  cases cs with
  |nil=>rfl
  |cons v l=>assumption
 |_=>intro cs e;simp [Ty.chain]at e
theorem ZmN{a b:Ty}{cs:List Value}(d:b.chain=true)(h:Gm (.prod a b) cs=true):Dw (.prod a b) cs=true:=by
 unfold Gm at h
 cases c:(Ty.prod a b).data with
 |true=>rw[c]at h;exact ZuE _ _ (by assumption) c h
 |false=>grind
theorem W3.chain{a b:Ty}(h:W3 P θ T (.prod a b)):b.chain=true:=by
 have c:=h.shape;unfold Z6 at c
 grind
theorem W3.run_zerox(h:W3 P θ T t)(x:Bool)(w:World):∃z,(zeroValue T).run P w=.ok z w/\ ∀w g,Ki w g (ZcD x t) z/\(ZcD x t).fits t=true:=by
 have c:ZcD x t=XA t\/ ∃a b,t=.prod a b/\ZcD x t=.agg (Gl false (.prod a b)):=by
  cases x with
  |false=>exact .inl rfl
  |true=>cases t with
   |prod a b=>exact .inr ⟨a,b,rfl,rfl⟩
   |_=>exact .inl rfl
 rcases c with c|⟨a,b,rfl,c⟩
 ·rw[c];exact h.run_zero w
 ·rw[c];obtain⟨i,z,d,j,k,e,f,m⟩:=h.info;refine⟨z,?_,fun w g=>?_⟩
  ·simp only[zeroValue,typeInfo,Vn,run_program,Vj,d,Vs,e]
  ·obtain⟨n,p⟩:=ZeX (w:=w) (g:=g) _ _ (ZmN h.chain f);exact⟨⟨by assumption,.inr (by assumption)⟩,by assumption⟩
def YH(w:World)(b o:Nat)(cs:List Value):Prop:= ∀j v,cs[j]? =some v->w.cell? ⟨b,o+j,none⟩=some v
theorem YH.add{w:World}{b o:Nat}{cs:List Value}(h:YH w b o cs):∀j v,cs[j]? =some v->w.cell? ((⟨b,o,none⟩:Addr).add j)=some v:=by
 intro j v c;unfold Addr.add;split
 ·rename_i d;subst d;exact h 0 v c
 ·exact h j v c
theorem Kp.at{w:World}{b o:Nat}{cs:List Value}(h:Kp w b o cs):YH w b o cs:=by intro j v d;obtain⟨c,rfl⟩:=Vaa.1 d;exact h j c
theorem YH.of_heap{w:World}{b:Nat}{cs:Array Value}{e:TypeId}{fr:Nat×Nat}(h:w.heap[b]? =some (.cells cs e fr)){pre c post:List Value}(d:cs.toList=pre++c++post):YH w b pre.length c:=by
 intro j v f;simp only[Vx,h,Vr,Vf,if_false];rw[<-Array.getElem?_toList,d,List.append_assoc,Vo (by omega)]
 grind
theorem Zhn(h:W3 P θ T t){w:World}{b o:Nat}{cs:List Value}(c:YH w b o cs)(f:cs.length=t.size)(d:t.agg=false->∃v,cs=[v]):
 (loadVar T ⟨b,o,none⟩).run P w=.ok (H7 t.agg cs) w:=by
 simp only[loadVar,Vn,h.run_isAgg,Vj]
 cases e:t.agg with
 |true=>
  simp only[if_true,Vn,h.run_sizeOf,Vj, <-f,run_loadCells_list w _ cs c.add,Vs,H7]
 |false=>
  obtain⟨v,rfl⟩:=d e;simp [H7];have:=c 0 v rfl
  grind
theorem Zbt{w:World}{g:Gh}{a:AV}{cs:List Value}(h:CV w g a cs)(d:a.fits t=true)(f:a.isAgg=t.agg):Ki w g a (H7 t.agg cs)/\(t.agg=false->∃v,cs=[v]):=by
 have e:a≠ .junk:=by rintro rfl;simp [AV.fits]at d
 have c:=CV.oneCell a cs e h t d;have b:=CV.length a t cs d h
 cases i:t.agg with
 |true=>exact⟨⟨by assumption,.inr (by rw[f,i];rfl)⟩,by simp⟩
 |false=>
  have j:t.size=1:=by cases t<;>simp_all [Ty.agg,Ty.size]
  rw[j]at b
  match cs,b with
  |[v],_=>
   have k:=c v (by simp);refine⟨⟨?_,.inr ?_⟩,by simp⟩
   ·have:v.cells= #[v]:=by cases v<;>simp_all [Vh,Vb]
    simpa [H7,this] using h
   ·rw[f,i];cases v<;>simp_all [H7,Z8,Vb]
end
theorem Zqs{a:AV}{t:Ty}(h:a.fits t=true):a.isAgg=t.agg\/ ∃n,a=.jk n:=by
 cases a with
 |d b x=>simp only[AV.fits,Kd]at h;subst h;exact .inl rfl
 |agg l=>cases l<;>cases t<;>simp_all [AV.fits,Zl.fits,AV.isAgg,Ty.agg]
 |jk n=>simp
 |_=>cases t<;>simp_all [AV.fits,AV.isAgg,Ty.agg]
end Tr
end
section
namespace Tr
open Go
section
variable {α β:Type}{H:AH}{l l' :List Nat}
theorem Zd{a x:α} :(Zq.ret a).run H l=some (x,l')↔a=x/\l=l' :=by simp [Zq.run]
theorem Zb{x:α×List Nat} :(Zq.fail:Zq α).run H l=some x↔False:=by simp [Zq.run]
theorem Zu{o:Option β}{k:β->Zq α}{x:α×List Nat} :(Zq.opt o k).run H l=some x↔∃b,o=some b/\(k b).run H l=some x:=by
 cases o<;>simp [Zq.run]
theorem ZN{id:Nat}{k:Option KO->Zq α}{x:α×List Nat} :(Zq.getH id k).run H l=some x↔(k (H id)).run H (id::l)=some x:=Iff.rfl
theorem Ztc{b:Bool}{k:Bool->Zq α}{x:α×List Nat} :(Zq.bool b k).run H l=some x↔(k b).run H l=some x:=Iff.rfl
theorem ZQ{a:Zq β}{f:β->Zq α}{x:α×List Nat} :(a.bind f).run H l=some x↔∃y m,a.run H l=some (y,m)/\(f y).run H m=some x:=by
 rw[Zq.run_bind]
 cases a.run H l with
 |none=>simp
 |some r=>
  obtain⟨y,m⟩:=r;simp only[Za,Option.some.injEq,Vd];exact⟨fun h=>⟨y,m,⟨rfl,rfl⟩,h⟩,fun⟨e,d,⟨b,c⟩,h⟩=>by subst b;subst c;exact h⟩
theorem ZD{b:Bool}{x y:Zq α}{z:α×List Nat} :(bif b then x else y).run H l=some z↔(b=true/\x.run H l=some z)\/(b=false/\y.run H l=some z):=by
 cases b<;>simp
end
theorem KH{v c:Value}(h:v.cells.toList=[c])(b:Z8 v=false):v=c:=by
 cases v<;>simp_all [Vh,Z8]
section
variable {w:World}{g:Gh}
theorem VR.int{k:IntKind}{n:Int}{v:Value}(h:VR w g (.d (.int k) n) v):v=.int k n:=by obtain⟨b,c⟩:=h;simp only[CV,Rd]at b;exact KH b (by simpa [AV.isAgg,Ty.agg] using c)
theorem VR.bool{b:Bool}{v:Value}(h:VR w g (.d .bool b) v):v=.bool b:=by obtain⟨c,e⟩:=h;simp only[CV,Rd]at c;exact KH c (by simpa [AV.isAgg,Ty.agg] using e)
theorem VR.str{s:List UInt8}{v:Value}(h:VR w g (.d .str s) v):v=.string ⟨s.toArray⟩:=by obtain⟨b,c⟩:=h;simp only[CV,Rd]at b;exact KH b (by simpa [AV.isAgg,Ty.agg] using c)
theorem VR.sl{t:Ty}{xs:List (El t)}{v:Value}(h:VR w g (.d (.sl t) xs) v):∃a cap css,v=.slice a xs.length cap/\Fa (Rd w g.I t) xs css/\
 (xs≠ []->∃b off,a=some ⟨b,off,none⟩/\g.I b/\Kp w b off css.flatten)/\xs.length<=cap:=by
 obtain⟨c,e⟩:=h;simp only[CV,Rd]at c;obtain⟨a,cap,css,f,i,j⟩:=c;exact⟨a,cap,css,KH f (by simpa [AV.isAgg,Ty.agg] using e),i,j⟩
theorem VR.ptr{id:Nat}{p:List Nat}{v:Value}(h:VR w g (.ptr id p) v):g.K id/\ ∃o t b,ZM (g.ty id) p=some (o,t)/\g.blk id=some b/\v=.pointer (some ⟨b,o,none⟩):=by obtain⟨c,d⟩:=h;simp only[CV]at c;obtain⟨j,o,t,b,e,f,i⟩:=c;exact⟨j,o,t,b,e,f,KH i (by simpa [AV.isAgg] using d)⟩
theorem VR.vp{id i:Nat}{p:List Nat}{v:Value}(h:VR w g (.vp id i p) v):g.K id/\ ∃o t b,ZM (g.ty id) p=some (o,t)/\g.blk id=some b/\v=.pointer (some ⟨b,i* (g.ty id).size+o,none⟩):=by obtain⟨c,d⟩:=h;simp only[CV]at c;obtain⟨k,o,t,b,e,f,j⟩:=c;exact⟨k,o,t,b,e,f,KH j (by simpa [AV.isAgg] using d)⟩
theorem VR.dp{t:Ty}{x:El t}{v:Value}(h:VR w g (.dp t x) v):∃b off c,v=.pointer (some ⟨b,off,none⟩)/\g.I b/\Kp w b off c/\Rd w g.I t x c:=by obtain⟨d,e⟩:=h;simp only[CV]at d;obtain⟨b,off,c,f,i⟩:=d;exact⟨b,off,c,KH f (by simpa [AV.isAgg] using e),i⟩
theorem VR.vw{id:Nat}{v:Value}(h:VR w g (.vw id) v):g.K id/\v=g.slv id:=by obtain⟨b,c⟩:=h;simp only[CV]at b;exact⟨b.1,KH b.2.1 (by simpa [AV.isAgg] using c)⟩
theorem VR.vs{id lo n:Nat}{v:Value}(h:VR w g (.vs id lo n) v):g.K id/\Za9 (g.slv id) (g.ty id).size lo n [v]:=by
 obtain⟨b,c⟩:=h;simp only[CV]at b;refine⟨b.1,?_⟩;have d:Z8 v=false:=by simpa [AV.isAgg] using c
 have:v.cells.toList=[v]:=by cases v<;>simp_all [Vh,Z8]
 rw[this]at b;exact b.2
theorem VR.nw{id ver:Nat}{b:Ty}{k:El b}{v:Value}(h:VR w g (.nw id ver b k) v):g.K id/\ver<=g.ver id/\v.oneCell' =true/\(g.ver id=ver->v=g.row id b k):=by obtain⟨c,d⟩:=h;simp only[CV]at c;obtain⟨j,m,u,e,f,i⟩:=c;have:v=u:=KH e (by simpa [AV.isAgg] using d);subst this;exact⟨j,m,f,i⟩
theorem VR.np{id ver:Nat}{c:Ty}{k:El c}{i:Nat}{p:List Nat}{v:Value}(h:VR w g (.np id ver c k i p) v):g.K id/\ver<=g.ver id/\ ∃a,v=.pointer (some a)/\
 (g.ver id=ver->∃b len cap o t,g.row id c k=.slice (some ⟨b,0,none⟩) len cap/\ZM (Db (g.ty id)) p=some (o,t)/\a=⟨b,i* (Db (g.ty id)).size+o,none⟩):=by
 obtain⟨d,e⟩:=h;simp only[CV]at d;obtain⟨m,n,a,f,j⟩:=d;exact⟨m,n,a,KH f (by simpa [AV.isAgg] using e),j⟩
theorem VR.mp{id:Nat}{v:Value}(h:VR w g (.mp id) v):g.K id/\ ∃b,g.blk id=some b/\v=.map (some b):=by obtain⟨c,d⟩:=h;simp only[CV]at c;obtain⟨i,b,e,f⟩:=c;exact⟨i,b,e,KH f (by simpa [AV.isAgg] using d)⟩
theorem VR.fn{f:FuncId}{l:Zl}{v:Value}(h:VR w g (.fn f l) v):∃b:List Value,v=JL f b/\Z2 w g l b:=by obtain⟨c,d⟩:=h;simp only[CV]at c;obtain⟨b,e,i⟩:=c;exact⟨b,KH e (by simpa [AV.isAgg] using d),i⟩
theorem VR.nils{v:Value}(h:VR w g .nils v):v=.slice none 0 0:=by obtain⟨b,c⟩:=h;simp only[CV]at b;exact KH b (by simpa [AV.isAgg] using c)
theorem VR.nilr{v:Value}{p:Bool}(h:VR w g (.nilr p) v):v=.pointer none\/v=.nilFunc\/v=.map none:=by
 obtain⟨b,d⟩:=h;have b:=ZaT b;have c:Z8 v=false:=by simpa [AV.isAgg] using d
 rcases b with h|h|h
 ·exact .inl (KH h c)
 ·exact .inr (.inl (KH h c))
 ·exact .inr (.inr (KH h c))
theorem VR.of1{a:AV}{v:Value}(h:Ki w g a v):VR w g a v:=by
 cases a with
 |tup l=>exact absurd h.1 (by simp [CV])
 |_=>exact h
theorem VR.to1{a:AV}{v:Value}(h:VR w g a v)(b:∀l,a≠ .tup l):Ki w g a v:=by
 cases a with
 |tup l=>exact absurd rfl (b l)
 |_=>exact h
theorem W4(k:IntKind)(n:Int):VR w g (.d (.int k) n) (.int k n):=⟨by simp [CV,Rd,Vh],.inr rfl⟩
theorem JG(b:Bool):VR w g (.d .bool b) (.bool b):=⟨by simp [CV,Rd,Vh],.inr rfl⟩
theorem Zbu(s:List UInt8):VR w g (.d .str s) (.string ⟨s.toArray⟩):=⟨by simp [CV,Rd,Vh],.inr rfl⟩
theorem Kx{a:AV}{v:Value}(h:CV w g a [v])(c:v.oneCell' =true)(b:a.isAgg=false):VR w g a v:=by
 apply VR.of1;refine⟨?_,.inr ?_⟩
 ·have:v.cells= #[v]:=by cases v<;>simp_all [Vh,Vb]
  simpa [this] using h
 ·rw[b];cases v<;>simp_all [Z8,Vb]
end
def Fr(w:World)(g:Gh)(F:Nat->AV)(tmps:Array Value):Prop:= ∀t,VR w g (F t) (tmps.getD t undef)
theorem Fr.mono{w w' :World}{g g' :Gh}{F:Nat->AV}{tmps:Array Value}(c:Kf g.I w w')(b:g.Le g')(h:Fr w g F tmps):Fr w' g' F tmps:=fun t=>(h t).mono c b
theorem Zm3{w:World}{g:Gh}(v:Value):VR w g (Zdb v) v:=by
 unfold Zdb;split
 ·exact JG _
 ·exact W4 _ _
 ·rename_i s;obtain⟨⟨l⟩⟩:=s;exact Zbu l
 ·exact⟨by simp [CV,Vh],.inr rfl⟩
 ·exact⟨by simp [CV,Vh],.inr rfl⟩
 ·exact⟨by simp [CV,Vh],.inr rfl⟩
 ·exact⟨by simp [CV,Vh],.inr rfl⟩
 ·exact Hb
theorem Fr.eval{w:World}{g:Gh}{F:Nat->AV}{a:Act}(h:Fr w g F a.tmps)(x:Operand):VR w g (Zt F x) (a.eval x):=by
 cases x with
 |tmp t=>exact h t
 |const v=>exact Zm3 v
 |global i=>exact Hb
 |func f=>
  simp only[Zt]
  cases b:Vg f Wu with
  |false=>exact Hb
  |true=>exact⟨by simp [CV,Z2,Act.eval,Vh,JL,b],.inr rfl⟩
def Zo(B:ZS)(H' :AH)(w:World)(g:Gh)(nid:Nat)(v:AV)(r:Result Next):Prop:=
 ∃val b c d,(r=.ok (.value val) b\/(r=.ok .skip b/\val=undef))/\RH B H' b c d/\g.Le c/\Kf g.I w b/\VR b c v val/\
  ∀id,c.K id->g.K id\/(nid<=id/\id<nid+K8)
theorem Zo.pure{B:ZS}{H:AH}{w:World}{g:Gh}{ow:Nat->Nat->Prop}{nid:Nat}{v:AV}{val:Value}{r:Result Next}(b:RH B H w g ow)(c:r=.ok (.value val) w)(d:VR w g v val):Zo B H w g nid v r:=
 ⟨val,w,g,ow,.inl c,b,.refl g,fun _ _=>rfl,d,fun _ h=>.inl h⟩
theorem Zo.after_le{B:ZS}{H' :AH}{w:World}{g d:Gh}{nid:Nat}{v:AV}{r:Result Next}(c:g.Le d)(s:∀id,d.K id->g.K id)(h:Zo B H' w d nid v r):Zo B H' w g nid v r:=by obtain⟨val,x,i,f,j,k,m,n,p,q⟩:=h;exact⟨val,x,i,f,j,k,c.trans m,fun b u=>n b (c.I b u),p,fun id e=>(q id e).imp (s id) fun h=>h⟩
theorem X7{g:Gh}{nid:Nat}(b:∀id,g.K id->id<nid\/nid+K8<=id):¬g.K nid:=fun h=>by have:=b nid h;unfold K8 at this;omega
theorem Zo.new' {B:ZS}{H:AH}{w:World}{g:Gh}{ow:Nat->Nat->Prop}{nid:Nat}{v:AV}{val:Value}{r:Result Next}{t:Ty}{sv:Value}{o:Obj}{ob:KO}(c:RH B H w g ow)(e:¬g.K nid)
 (s:r=.ok (.value val) (w.alloc o)) (q:ORel (w.alloc o) (g.add nid t (some w.heap.size) sv) (fun k=>k=w.heap.size) nid ob)
 (x:VR (w.alloc o) (g.add nid t (some w.heap.size) sv) v val):Zo B (ZO H nid (some ob)) w g nid v r:=by
 have d:∀k,k<w.heap.size->(w.alloc o).heap[k]? =w.heap[k]? :=fun k i=>by show (w.heap.push o)[k]? =_;rw[Array.getElem?_push,Zf (by omega)]
 refine⟨val,w.alloc o,g.add nid t (some w.heap.size) sv,JU ow nid (fun k=>k=w.heap.size),.inl s,?_,Gh.le_add e _ _ _,fun b p=>d b (c.ilt b p),x,?_⟩
 ·have u:(w.alloc o).heap.size=w.heap.size+1:=Array.size_push ..;refine c.add e d (by omega) rfl rfl ⟨rfl,Vl _⟩ (fun k i=>?_) q;subst i;refine⟨fun n=>absurd (c.ilt _ n) (by omega),by omega,.inr c.size,fun f j m=>?_⟩;have:=(c.sep f _ j m).2.1;omega
 ·intro id h;rcases h with rfl|h
  ·exact .inr ⟨Vl _,by unfold K8;omega⟩
  ·exact .inl h
theorem Zo.new{B:ZS}{H:AH}{w:World}{g:Gh}{ow:Nat->Nat->Prop}{nid:Nat}{v:AV}{val:Value}{r:Result Next}{t:Ty}{sv:Value}{o:Obj}{ob:KO}(b:RH B H w g ow)(c:∀id,g.K id->id<nid\/nid+K8<=id)
 (e:r=.ok (.value val) (w.alloc o)) (d:ORel (w.alloc o) (g.add nid t (some w.heap.size) sv) (fun k=>k=w.heap.size) nid ob)
 (f:VR (w.alloc o) (g.add nid t (some w.heap.size) sv) v val):Zo B (ZO H nid (some ob)) w g nid v r:=Zo.new' b (X7 c) e d f
structure ZX (P:Program) (E:Z3):Prop where
 ty:∀T t,E.ty T=some t->W3 P E.ty T t
 mty:∀T m,E.mty T=some m->∃K V,P.underlying T=some (.map K V)/\E.ty K=some m.1/\E.ty V=some m.2
 pk:∀T,(E.pk T=1->∃e,P.underlying T=some (.pointer e))/\(E.pk T=2->∃a b c,P.underlying T=some (.func a b c))/\(E.pk T=3->∃a b,P.underlying T=some (.map a b))
 pz:∀T,E.pz T=true->∃e,P.underlying T=some (.pointer e)/\ ∀w:World,∃n,(Go.sizeOf e).run P w=.ok n w/\n≠0
 bd:∀T e,E.bd T=some e->∃z:Value,(∀w,(zeroValue T).run P w=.ok z w)/\z.cells= #[.pointer none,.slice none 0 0]
section ops
variable {P:Program}{E:Z3}{B:ZS}{H:AH}{w:World}{g:Gh}{ow:Nat->Nat->Prop}{nid:Nat}{a:Act}{F:Nat->AV}{v:AV}{patch:Kq}{rd:List Nat}{o:Oper}
theorem Zis{x:Operand}(c:RH B H w g ow)(hF:Fr w g F a.tmps)(b:o.op=.move x\/o.op=.assign x)(h:(ZG E nid o.op o.type (Zt F)).run H []=some ((v,patch),rd)):Zo B (Zn H patch) w g nid v ((execOp a.eval o).run P w):=by
 rcases b with b|b<;>rw[b]at h<;>simp only[ZG,Zd,Vd]at h<;>obtain⟨⟨rfl,rfl⟩,_⟩:=h<;>
  exact Zo.pure c (by unfold execOp;rw[b];rfl) (hF.eval x)
theorem Zn4{c x y:Operand}(d:RH B H w g ow)(hF:Fr w g F a.tmps)(b:o.op=.pick c x y)(h:(ZG E nid o.op o.type (Zt F)).run H []=some ((v,patch),rd)):Zo B (Zn H patch) w g nid v ((execOp a.eval o).run P w):=by
 rw[b]at h;simp only[ZG]at h;split at h
 ·rename_i t f;simp only[Ztc,Zd,Vd]at h;obtain⟨⟨rfl,rfl⟩,_⟩:=h;have e:=(f▸hF.eval c).bool;cases t
  ·exact Zo.pure d (by unfold execOp;rw[b];simp only[e];rfl) (hF.eval y)
  ·exact Zo.pure d (by unfold execOp;rw[b];simp only[e];rfl) (hF.eval x)
 ·simp [Zb]at h
theorem Zn2{x:Operand}(q:RH B H w g ow)(hF:Fr w g F a.tmps)(f:o.op=.nilCheck x)(h:(ZG E nid o.op o.type (Zt F)).run H []=some ((v,patch),rd)):Zo B (Zn H patch) w g nid v ((execOp a.eval o).run P w):=by
 rw[f]at h;simp only[ZG,ZD,Zd,Zb,ZJ,ZY,Vd]at h;obtain⟨m,⟨rfl,rfl⟩,_⟩:=h;have e:=hF.eval x;refine Zo.pure (val:=a.eval x) q ?_ e
 cases r:Zt F x<;>rw[r]at m e<;>simp [Zj9]at m
 ·obtain⟨b,off,c,d,_⟩:=e.dp;simp [execOp,f,d]
 ·obtain⟨_,s,t,b,_,_,d⟩:=e.ptr;simp [execOp,f,d]
 ·obtain⟨_,s,t,b,_,_,d⟩:=e.vp;simp [execOp,f,d]
 ·obtain⟨_,b,_,d⟩:=e.mp;simp [execOp,f,d]
 ·obtain⟨p,d,_⟩:=e.fn
  obtain⟨n,j,i,d⟩:∃n j i,a.eval x=.func (.func n) j i:=by
   rcases ZaK _ p with ⟨_,k⟩|⟨_,k⟩
   all_goals exact⟨_,_,_,d.trans k⟩
  simp [execOp,f,d]
 ·obtain⟨_,_,a,d,_⟩:=e.np;simp [execOp,f,d]
theorem ZnP{x:Operand}{i:Nat}(n:RH B H w g ow)(hF:Fr w g F a.tmps)(e:o.op=.extract x i)(h:(ZG E nid o.op o.type (Zt F)).run H []=some ((v,patch),rd)):Zo B (Zn H patch) w g nid v ((execOp a.eval o).run P w):=by
 rw[e]at h;simp only[ZG]at h;split at h
 ·rename_i l p;simp only[Zu,Zd,Vd]at h;obtain⟨j,q,⟨rfl,rfl⟩,_⟩:=h;have f:=hF.eval x;rw[p]at f;obtain⟨vs,k,m⟩:=f
  have key:∀(l:Zl) (vs:List Value) (i:Nat),Wt w g l vs->l.nth i=some j->∃u,vs[i]? =some u/\Ki w g j u:=by
   intro l
   induction l using Zl.rec (motive_1:=fun _=>True) with
   |nil=>intro vs i _ h;simp [Zl.nth]at h
   |cons b l _ y=>
    intro vs i s h;obtain⟨u,r,rfl,c,d⟩:=s
    cases i with
    |zero=>simp only[Zl.nth,Option.some.injEq]at h;subst h;exact⟨u,rfl,c⟩
    |succ i=>simp only[Zl.nth]at h;simpa using y r i d h
   |_=>trivial
  obtain⟨u,c,d⟩:=key l vs i m q;refine Zo.pure (val:=u) n ?_ (VR.of1 d);simp [execOp,e,k,Instr.extract,c]
 ·simp [Zb]at h
end ops
end Tr
end
section
namespace Tr
open Go
def ZF(H:AH)(ow:Nat->Nat->Prop)(ids:List Nat)(b:Nat):Prop:= ∃id∈ids,H id≠none/\ow id b
theorem RH.free{B:ZS}{H:AH}{w w' :World}{g:Gh}{ow:Nat->Nat->Prop}(h:RH B H w g ow){b:Nat}(x:∀id,H id≠none->¬ow id b)(u:¬g.I b)(s:B.own0 b\/B.w0.heap.size<=b)
 (d:∀k,k≠b->w'.heap[k]? =w.heap[k]?) (e:w'.heap.size=w.heap.size) (q:w'.os=w.os) (f:w'.tape=w.tape) (n:Ym w' w):RH B H w' g ow where
 objs:=fun k o r=>by obtain⟨i,j⟩:=h.objs k o r;exact⟨i,j.mono (fun c m=>by grind) (.refl g) i rfl (by grind)⟩
 dist:=h.dist
 sep:=fun k c i j=>by rw[e];exact h.sep k c i j
 ilt:=fun c m=>by rw[e];exact h.ilt c m
 inew:=h.inew
 os:=q.trans h.os
 tape:=f.trans h.tape
 output:=n.trans h.output
 size:=by rw[e];exact h.size
 kept:=fun c i j=>by
  have p:c≠b:=by
   grind
  rw[d c p];exact h.kept c i j
theorem J2:∀(b c:Kq) (H:AH),Zn H (b++c)=Zn (Zn H b) c
 |[],_,_=>rfl
 |p::b,c,H=>J2 b c (ZO H p.1 p.2)
theorem RH.drops{B:ZS}{w:World}{g:Gh}{ow:Nat->Nat->Prop} :∀(l:List Nat) {H:AH},RH B H w g ow->RH B (Zn H (l.map fun id=>(id,none))) w g ow
 |[],_,h=>h
 |id::l,H,h=>by simp only[Vq,Zn];exact RH.drops l (h.drop id)
theorem Da:∀(l:List Nat) (H:AH) (k:Nat),Zn H (l.map fun id=>(id,none)) k=if k∈l then none else H k
 |[],H,k=>by rfl
 |id::l,H,k=>by
  simp only[Vq,Zn];rw[Da l];by_cases c:k∈l
  ·grind
  ·by_cases b:k=id
   ·subst b;simp [c,Xj]
   ·simp [c,b,Ko b]
theorem Zjt{a b:Ty}{x y:El (.prod a b)}{r:Bool}(h:eqEl (.prod a b) x y=some r):
 ∃p q,eqEl a x.1 y.1=some p/\eqEl b x.2 y.2=some q/\r=(p&&q):=by
 cases b with
 |unit=>
  simp only[eqEl]at h
  exact⟨r,true,h,rfl,by simp⟩
 |_=>
  simp only[eqEl,Vfa]at h;obtain⟨p,c,q,d,e⟩:=h;exact⟨p,q,c,d,by grind⟩
theorem Zju:∀(t:Ty) (x y:El t),eqEl t x y=some true->x=y:=by
 intro t
 induction t with
 |int k=>intro x y h;simpa [eqEl] using h
 |bool=>intro x y h;simpa [eqEl] using h
 |str=>intro x y h;simpa [eqEl] using h
 |unit=>simp
 |sl t _=>intro x y h;simp [eqEl]at h
 |ref=>simp
 |pt t _=>intro x y h;simp [eqEl]at h
 |lk a b _ _=>intro x y h;simp [eqEl]at h
 |pn t _=>intro x y h;simp [eqEl]at h
 |prod a b c d=>
  intro x y h;obtain⟨p,q,f,i,j⟩:=Zjt h
  grind
 |arr n t r=>
  intro x y h;simp only[eqEl]at h
  have key:∀(l m:List (El t)),eqEl.eqs (eqEl t) l m=some true->l=m:=by
   intro l
   induction l with
   |nil=>intro m h;cases m<;>simp [eqEl.eqs]at h;rfl
   |cons a l e=>
    intro m h
    cases m with
    |nil=>simp [eqEl.eqs]at h
    |cons b m=>
     simp only[eqEl.eqs,Vfa,Option.some.injEq,Va]at h
     grind
  grind
theorem Zqg:∀(t:Ty) (x:El t),t.key=true->eqEl t x x=some true:=by
 intro t
 induction t with
 |int k=>intro x _;simp [eqEl]
 |bool=>intro x _;simp [eqEl]
 |str=>intro x _;simp [eqEl]
 |unit=>intro x _;rfl
 |sl t _=>intro x h;simp [Ty.key]at h
 |ref=>intro x h;simp [Ty.key]at h
 |pt t _=>intro x h;simp [Ty.key]at h
 |lk a b _ _=>intro x h;simp [Ty.key]at h
 |pn t _=>intro x h;simp [Ty.key]at h
 |prod a b c d=>
  intro x h;simp only[Ty.key,Va]at h;have i:=c x.1 h.1;have j:=d x.2 h.2
  cases b with
  |unit=>assumption
  |_=>
   show (eqEl a x.1 x.1).bind _=_
   grind
 |arr n t f=>
  intro x h;simp only[Ty.key]at h;simp only[eqEl]
  have key:∀l:List (El t),eqEl.eqs (eqEl t) l l=some true:=by
   intro l
   induction l with
   |nil=>rfl
   |cons a l e=>simp [eqEl.eqs,f a h,e]
  grind
theorem JA{t:Ty}(c:t.key=true){x y:El t} :Zj t x y=true↔x=y:=by
 constructor
 ·intro h;unfold Zj at h
  cases b:eqEl t x y with
  |none=>grind
  |some r=>
   rw[b]at h;simp only[Option.getD_some]at h;subst h;exact Zju t x y b
 ·rintro rfl;simp [Zj,Zqg t x c]
theorem Df{t:Ty}(h:t.keyOk=true):t.key=true:=by simp only[Ty.keyOk,Va]at h;grind
def WJ{α β:Type}(eq:α->α->Bool)(k:α):List (α×β)->Option Nat
 |[]=>none
 |e::l=>bif eq k e.1 then some 0 else(WJ eq k l).map (· +1)
theorem G1{α β:Type}(eq:α->α->Bool)(k:α):∀(l:List (α×β)),ZK eq k l=(WJ eq k l).bind fun j=>(l[j]?).map Vra
 |[]=>rfl
 |e::l=>by
  simp only[ZK,WJ]
  cases eq k e.1 with
  |true=>rfl
  |false=>
   simp only[Ze,G1 eq k l]
   cases WJ eq k l<;>simp
theorem DE{α β:Type}(eq:α->α->Bool)(k:α)(v:β):∀(l:List (α×β)),Kh eq k v l=match WJ eq k l with|some j=>l.set j (k,v) |none=>l++[(k,v)]
 |[]=>rfl
 |e::l=>by
  simp only[Kh,WJ]
  cases eq k e.1 with
  |true=>rfl
  |false=>
   simp only[Ze,DE eq k v l]
   grind
theorem DD{α β:Type}(eq:α->α->Bool)(k:α):∀(l:List (α×β)) (j:Nat),WJ eq k l=some j->∃e,l[j]? =some e/\eq k e.1=true
 |[],j,h=>by simp [WJ]at h
 |e::l,j,h=>by
  simp only[WJ]at h
  cases c:eq k e.1 with
  |true=>grind
  |false=>
   rw[c]at h;simp only[Ze,Option.map_eq_some_iff]at h;obtain⟨i,b,rfl⟩:=h;obtain⟨d,f,m⟩:=DD eq k l i b
   grind
theorem Zc8{t:Ty}{β:Type}(c:t.key=true){k:El t} :∀{l:List (El t×β)}{x:β},ZK (Zj t) k l=some x->(k,x)∈l
 |[],_,h=>by simp [ZK]at h
 |e::l,x,h=>by
  simp only[ZK]at h
  cases b:Zj t k e.1 with
  |true=>
   rw[b]at h;simp only[Zc,Option.some.injEq]at h;have:=(JA c).1 b
   grind
  |false=>rw[b]at h;exact List.mem_cons_of_mem _ (Zc8 c h)
theorem Zaj{t:Ty}{β:Type}(c:t.key=true){k:El t} :∀{l:List (El t×β)},ZK (Zj t) k l=none->k ∉ l.map Ve
 |[],_=>by simp
 |e::l,h=>by
  simp only[ZK]at h
  cases b:Zj t k e.1 with
  |true=>grind
  |false=>
   rw[b]at h;simp only[Vq,Vka,not_or];exact⟨fun d=>by rw[(JA c).2 d]at b;grind,Zaj c h⟩
theorem DF{t:Ty}{β:Type}(b:t.key=true){k:El t}{v:β} :∀{l:List (El t×β)},(k∈l.map Ve->(Kh (Zj t) k v l).map Ve=l.map Ve)/\(k ∉ l.map Ve->Kh (Zj t) k v l=l++[(k,v)])
 |[]=>by simp [Kh]
 |e::l=>by
  have h:=DF b (k:=k) (v:=v) (l:=l);simp only[Kh]
  cases c:Zj t k e.1 with
  |true=>
   have:=(JA b).1 c
   grind
  |false=>
   have f:k≠e.1:=fun d=>by rw[(JA b).2 d]at c;grind
   grind
theorem Zft{t:Ty}{β:Type}(b:t.key=true){k:El t}{v:β}{l:List (El t×β)}(c:(l.map Ve).Nodup):((Kh (Zj t) k v l).map Ve).Nodup:=by
 by_cases h:k∈l.map Ve
 ·rw[(DF b).1 h];omega
 ·rw[(DF b).2 h,Vqa,Vma]
  grind
theorem Zd7{t:Ty}{β:Type}(d:t.key=true){k c:El t}{v x:β} :∀{l:List (El t×β)},(l.map Ve).Nodup->(c,x)∈Kh (Zj t) k v l->(c=k/\x=v)\/(c≠k/\(c,x)∈l)
 |[],_,h=>by simp [Kh]at h;grind
 |e::l,f,h=>by
  simp only[Vq,Vta]at f;simp only[Kh]at h
  cases b:Zj t k e.1 with
  |true=>
   have j:=(JA d).1 b
   grind
  |false=>
   rw[b]at h;simp only[Ze,Vka]at h;rcases h with h|h
   ·refine .inr ⟨fun i=>?_,by grind⟩;rw[<-h]at b;rw[(JA d).2 i.symm]at b;grind
   ·exact(Zd7 d f.2 h).imp (fun h=>h) fun⟨m,n⟩=>by grind
theorem ZaB{α β:Type}{r:α->β->Prop} :∀{l:List α}{m:List β},l.length=m.length->(∀(n:Nat) a b,l[n]? =some a->m[n]? =some b->r a b)->Fa r l m
 |[],[],_,_=>trivial
 |a::l,b::m,h,c=>⟨c 0 a b rfl rfl,ZaB (by grind) fun n x y d e=>c (n+1) x y d e⟩
theorem W9{n:Nat} :∀{l:List Nat},KC n l=true↔n∈l
 |[]=>by simp [KC]
 |k::l=>by simp only[KC,Vsa,Nat.beq_eq,Vka,W9]
theorem Zee:∀{l:List Nat},HL l=true↔l.Nodup
 |[]=>by simp [HL]
 |n::l=>by simp only[HL,Va,Vba,Vta,Zee];rw[<-W9,Vpa]
theorem DN:∀{l m:List Nat},JJ l m=true↔∀n∈l,n ∉ m
 |[],m=>by simp [JJ]
 |n::l,m=>by simp only[JJ,Va,Vba,List.forall_mem_cons,DN];rw[<-W9,Vpa]
theorem X9{b:Bool}{u:Unit}(h:Zy b=some u):b=true:=by
 cases b<;>simp [Zy]at h;rfl
theorem ZdK{α β:Type}{r:α->β->Prop} :∀{l:List α}{m:List β},Fa r l m->∀{n:Nat}{a:α}{b:β},l[n]? =some a->m[n]? =some b->r a b
 |[],[],_,n,a,b,h,_=>by grind
 |_::_,_::_,⟨p,_⟩,0,a,b,h,c=>by
  grind
 |_::_,_::_,⟨_,q⟩,n+1,a,b,h,c=>ZdK q (by assumption) (by grind)
theorem Ze1{P:Program}{θ:TypeId->Option Ty}{T:TypeId}{t:Ty}(h:W3 P θ T (.sl t))(w:World):(zeroValue T).run P w=.ok (.slice none 0 0) w:=by
 obtain⟨i,z,d,_,_,e,b,k⟩:=h.info
 have f:z.cells.toList=[.slice none 0 0]:=by
  unfold Gm at b
  cases c:(Ty.sl t).data with
  |true=>
   rw[c]at b;simp only[Zc]at b
   match j:z.cells.toList,b with
   |[.slice none 0 0],_=>rfl
  |false=>
   rw[c]at b;simp only[Ze]at b
   match j:z.cells.toList,b with
   |[.slice none 0 0],_=>rfl
 have:z=.slice none 0 0:=KH f (by assumption);subst this;simp only[zeroValue,typeInfo,Vn,run_program,Vj,d,Vs,e]
section
variable {B:ZS}{H:AH}{w:World}{g:Gh}{ow:Nat->Nat->Prop}
theorem DK{t b:Ty}{x:List (El t)}{y:El (.sl b)}(h:Kl (.sl t) (.sl b) x=some y):∃e:t=b,y=(e▸x:List (El b)):=by
 obtain⟨e,h⟩:=Kv h
 grind
theorem Zcm{t:Ty}{x:AV}{val:Value}{y:List (El t)}{ids l l' :List Nat}(u:RH B H w g ow)(p:VR w g x val)(h:(Jb t x).run H l=some ((y,ids),l')):
 (ids=[]/\y=[]/\val=.slice none 0 0)\/ ∃id,ids=[id]/\H id≠none/\((y=[]/\val=.slice none 0 0)\/ ∃b cap cs e css,ow id b/\val=.slice (some ⟨b,0,none⟩) y.length cap/\w.heap[b]? =some (.cells cs e (0,0))/\
   y.length<=cap/\cap*t.size<=cs.size/\Fa (Rd w g.I t) y css/\css.flatten<+:cs.toList):=by
 unfold Jb at h;split at h
 ·rename_i id;rw[ZN]at h;split at h
  ·rename_i J xs f;simp only[Zu,Zd,Vd]at h;obtain⟨K,q,⟨rfl,rfl⟩,_⟩:=h;obtain⟨i,rfl⟩:=Kv q;cases i;obtain⟨_,d⟩:=p.vw;obtain⟨_,_,s⟩:=u.objs id _ f
   grind
  ·simp [Zb]at h
 ·rename_i id n;rw[ZN]at h;split at h
  ·rename_i J xs f;simp only[Zu,Zd,Vd]at h;obtain⟨K,q,⟨rfl,rfl⟩,_⟩:=h;obtain⟨i,rfl⟩:=Kv q;cases i;obtain⟨_,d⟩:=p.vs;obtain⟨_,k,s⟩:=u.objs id _ f;rw[k]at d;refine .inr ⟨id,rfl,by grind,?_⟩;rcases d with ⟨A,_,rfl,d⟩|⟨b,len,cap,m,A,M,N,O,d⟩
   ·grind
   ·rcases s with ⟨_,_,c⟩|⟨L,r,cs,e,css,_,G,c,D,Q,R,j,C⟩
    ·grind
    ·rw[A]at c;simp only[Vab.injEq,Option.some.injEq,Addr.mk.injEq,and_true]at c;obtain⟨rfl,rfl,rfl⟩:=c;have z:(xs.take n).length=n:=by grind
     refine .inr ⟨b,m,cs,e,css.take n,G,?_,D,?_,?_,j.take n,?_⟩
     ·grind
     ·grind
     ·have:m*t.size<=cap*t.size:=Nat.mul_le_mul_right _ (by omega);omega
     ·refine List.IsPrefix.trans ⟨(css.drop n).flatten,?_⟩ C;rw[<-List.flatten_append,Vha]
  ·simp [Zb]at h
 ·simp only[Zd,Vd]at h;obtain⟨⟨rfl,rfl⟩,_⟩:=h;exact .inl ⟨rfl,rfl,p.nils⟩
 ·simp [Zb]at h
theorem Zcn{t:Ty}{x:AV}{val:Value}{y:List (El t)}{ids l l' :List Nat}(p:RH B H w g ow)(r:VR w g x val)(h:(Jb t x).run H l=some ((y,ids),l')):K7 w g.I (ZF H ow ids) t y val:=by
 rcases Zcm p r h with ⟨_,c,d⟩|⟨id,rfl,i,⟨c,d⟩|⟨b,cap,cs,e,f,q,c,d,j,k,m,n⟩⟩
 ·exact .inl ⟨c,d⟩
 ·exact .inl ⟨c,d⟩
 ·exact .inr ⟨b,cap,cs,e,f,c,⟨id,by simp,i,q⟩,d,j,k,m,n⟩
theorem K7.own{I J:Nat->Prop}{t:Ty}{xs:List (El t)}{d:Value}(h:K7 w I J t xs d){b:Nat}(c:K2 d=some b):J b:=by
 rcases h with ⟨_,rfl⟩|⟨e,_,_,_,_,rfl,f,_⟩
 ·simp [K2]at c
 ·simp only[K2,Option.some.injEq]at c;grind
theorem K7.one{I J:Nat->Prop}{t:Ty}{xs:List (El t)}{b:Value}(h:K7 w I J t xs b):b.oneCell' =true/\Z8 b=false:=by
 rcases h with ⟨_,rfl⟩|⟨c,_,_,_,_,rfl,d,_⟩<;>exact⟨rfl,rfl⟩
theorem RF.put{κ:Type}{w' :World}{I J u:Nat->Prop}{t:Ty}{top:Option Nat}{row e:κ->Value}{c c' :κ->List (El t)->Prop}{hole:Option κ}(h:RF w I J t top row c hole){k0:κ}{x0:List (El t)}
 (d:∀k,k≠k0->e k=row k) (r:∀k x,c' k x->(k=k0/\x=x0)\/(k≠k0/\c k x)) (K:hole=none\/hole=some k0) (L:K7 w' I u t x0 (e k0))
 (q:∀k x,c k x->k≠k0->K7 w I J t x (row k)->K7 w' I u t x (row k)) (G:∀b,K2 (e k0)=some b->(∀k x,c k x->k≠k0->K2 (row k)≠some b)/\top≠some b):RF w' I u t top e c' none:=by
 have i:∀k,k≠k0->hole≠some k:=by grind
 refine⟨fun k x p _=>?_,fun k s x C b p y z _ _ m n=>?_,fun k x b p _ m=>?_⟩
 ·rcases r k x p with ⟨rfl,rfl⟩|⟨f,j⟩
  ·omega
  ·rw[d k f];exact q k x j f (h.rd k x j (i k f))
 ·rcases r k x p with ⟨rfl,rfl⟩|⟨f,j⟩
  ·grind
  ·rw[d k f]at m;rcases r s C y with ⟨rfl,rfl⟩|⟨A,D⟩
   ·grind
   ·rw[d s A]at n;exact h.ds k s x C b j D z (i k f) (i s A) m n
 ·rcases r k x p with ⟨rfl,rfl⟩|⟨f,j⟩
  ·grind
  ·rw[d k f]at m;exact h.tp k x b j (i k f) m
theorem RF.take{κ:Type}{w' :World}{I J n:Nat->Prop}{t:Ty}{top:Option Nat}{row:κ->Value}{c:κ->List (El t)->Prop}(h:RF w I J t top row c none)(k0:κ)
 (e:∀k x,c k x->k≠k0->K7 w I J t x (row k)->K7 w' I n t x (row k)):RF w' I n t top row c (some k0):=by
 have m:∀k,some k0≠some k->k≠k0:=by grind
 exact⟨fun k x d p=>e k x d (m k p) (h.rd k x d (by simp)),fun k q x r b d i j _ _ f=>h.ds k q x r b d i j (by simp) (by simp) f,fun k x b d _ f=>h.tp k x b d (by simp) f⟩
theorem RL.nil{I J:Nat->Prop}{t:Ty} :RL w I J t [] []:=⟨rfl,⟨by simp,by simp,by simp⟩⟩
theorem RL.row{I J:Nat->Prop}{t:Ty}{b:List Value}{xs:List (List (El t))}(h:RL w I J t b xs){i:Nat}{x:List (El t)}(c:xs[i]? =some x):K7 w I J t x (b.getD i undef):=h.2.rd i x c (by simp)
theorem RL.mono{w' :World}{I d J e:Nat->Prop}{t:Ty}{c:List Value}{xs:List (List (El t))}(m:Kf I w w')(f:∀b,I b->d b)(n:∀b,J b->e b)(p:∀i x b,xs[i]? =some x->K2 (c.getD i undef)=some b->w'.heap[b]? =w.heap[b]?)(h:RL w I J t c xs):RL w' d e t c xs:=
 ⟨h.1,⟨fun k x j _=>(h.row j).mono m f (by grind) (by grind),h.2.ds,h.2.tp⟩⟩
theorem RL.single{I J:Nat->Prop}{t:Ty}{v:Value}{x:List (El t)}(h:K7 w I J t x v):RL w I J t [v] [x]:=by
 refine⟨rfl,⟨by grind,by grind,by simp⟩⟩
 all_goals grind
theorem RL.append{I z A:Nat->Prop}{t:Ty}{k m:List Value}{xs u:List (List (El t))}(a:RL w I z t k xs)(b:RL w I A t m u)(D:∀c,z c->¬A c):RL w I (fun c=>z c\/A c) t (k++m) (xs++u):=by
 have key:∀i x,(xs++u)[i]? =some x->(i<xs.length/\xs[i]? =some x/\(k++m).getD i undef=k.getD i undef)\/(xs.length<=i/\u[i - xs.length]? =some x/\(k++m).getD i undef=m.getD (i - xs.length) undef):=by
  intro i x h;rcases Nat.lt_or_ge i xs.length with s|s
  ·rw[Vca s]at h;exact .inl ⟨s,h,by simp only[Vy];rw[Vca (by rw[a.1];omega)]⟩
  ·rw[Vo s]at h;exact .inr ⟨s,h,by simp only[Vy];rw[Vo (by rw[a.1];omega),a.1]⟩
 refine⟨by simp [a.1,b.1],⟨fun i x h _=>?_,fun i j x y c h J C _ _ f d=>?_,by simp⟩⟩
 ·rcases key i x h with ⟨_,n,e⟩|⟨_,n,e⟩
  ·rw[e];exact(a.row n).mono (fun _ _=>rfl) (by simp) (by grind) (by simp)
  ·rw[e];exact(b.row n).mono (fun _ _=>rfl) (by simp) (by grind) (by simp)
 ·rcases key i x h with ⟨n,e,p⟩|⟨n,e,p⟩<;>rcases key j y J with ⟨G,q,r⟩|⟨G,q,r⟩
  ·rw[p]at f;rw[r]at d;exact a.2.ds i j x y c e q C (by simp) (by simp) f d
  ·rw[p]at f;rw[r]at d;exact D c ((a.row e).own f) ((b.row q).own d)
  ·rw[p]at f;rw[r]at d;exact D c ((a.row q).own d) ((b.row e).own f)
  ·rw[p]at f;rw[r]at d;exact b.2.ds _ _ x y c e q (by omega) (by simp) (by simp) f d
def YK(w:World)(I J:Nat->Prop)(c t:Ty)(m:List (El c×List (El t)))(v:Value):Prop:=
 ∃(row:El c->Value) (b:Nat) (es:Array MapEntry) (clock:Nat),v=.map (some b)/\J b/\w.heap[b]? =some (.map es clock)/\Ix es clock/\RF w I J t (some b) row (fun k x=>(k,x)∈m) none/\(m.map Ve).Nodup/\
  (∀k,k ∉ m.map Ve->row k=.slice none 0 0)/\Fa (fun kv e=>(Rd w I c kv.1 e.key.cells.toList/\Z8 e.key=c.agg)/\e.val=row kv.1) m es.toList
theorem YK.mono{w' :World}{I i J j:Nat->Prop}{c t:Ty}{m:List (El c×List (El t))}{v:Value}(p:Kf I w w')(k:∀b,I b->i b)(n:∀b,J b->j b)(z:∀b,J b->w'.heap[b]? =w.heap[b]?)(h:YK w I J c t m v):YK w' i j c t m v:=by obtain⟨row,b,es,clock,q,r,A,d,s,u,x,y⟩:=h;exact⟨row,b,es,clock,q,n b r,by grind,d,s.mono p k n z,u,x,y.mono fun kv e f=>⟨⟨Rd.mono p k c _ _ f.1.1,f.1.2⟩,f.2⟩⟩
theorem JQ.of_obj{J:Nat->Prop}{id u:Nat}{t:Ty}{xs:List (List (El t))}(h:ORel w g J id (.rows t xs u none)):JQ w g.I J t xs (g.slv id):=by
 obtain⟨_,_,d,A⟩:=h;have k:∀i x,xs[i]? =some x->((Vp xs.length).map fun i:Nat=>g.row id (.int .i64) (i:Int)).getD i undef=g.row id (.int .i64) (i:Int):=by grind
 refine⟨(Vp xs.length).map fun i:Nat=>g.row id (.int .i64) (i:Int),⟨by simp,⟨fun i x c _=>?_,fun i j x y b c n m _ _ f=>?_,by simp⟩⟩,?_⟩
 ·rw[k i x c];exact d.rd i x c (by simp)
 ·rw[k i x c]at f;rw[k j y n];exact d.ds i j x y b c n m (by simp) (by simp) f
 ·rcases A with ⟨D,_,G⟩|⟨b,cap,cs,e,f,p,q,r,s,z,K⟩
  ·grind
  ·refine .inr ⟨b,cap,cs,e,p,fun i x c=>?_,q,r,s,z,fun i L=>?_⟩
   ·rw[k i x c];intro C;exact d.tp i x b c (by simp) C f
   grind
theorem YK.of_obj{J:Nat->Prop}{id u:Nat}{d t:Ty}{m:List (El d×List (El t))}(h:ORel w g J id (.mrows d t m u none)):∃b,g.blk id=some b/\YK w g.I J d t m (.map (some b)):=by
 obtain⟨_,_,r,i,c,b,es,clock,q,k,n,f,p⟩:=h;refine⟨b,q,g.row id d,b,es,clock,rfl,k,n,f,?_,i,c,p.mono fun kv e j=>⟨⟨by simpa only[CV] using j.1.1,by simpa [AV.isAgg] using j.1.2⟩,j.2⟩⟩
 grind
def D3(c:List Value):(b:Ty)->El b->Value:=fun b k=>if h:b=.int .i64 then c.getD ((h▸k:El (.int .i64)):Int).toNat undef else .slice none 0 0
theorem R1(b:List Value)(i:Nat):D3 b (.int .i64) (i:Int)=b.getD i undef:=by rfl
def rowK{c:Ty}(row:El c->Value):(b:Ty)->El b->Value:=fun b k=>if h:b=c then row (h▸k) else .slice none 0 0
theorem ZlC{b:Ty}(row:El b->Value)(k:El b):rowK row b k=row k:=by simp [rowK]
theorem JQ.obj{J:Nat->Prop}{t:Ty}{xs:List (List (El t))}{v:Value}(h:JQ w g.I J t xs v)(id:Nat):∃b r,ORel w (g.add id (.sl t) b v r) J id (.rows t xs 0 none):=by
 obtain⟨m,⟨Q,f⟩,u⟩:=h;have d:∀b,(g.add id (.sl t) b v (D3 m)).row id=D3 m:=fun b=>by simp [Gh.add]
 rcases u with ⟨rfl,rfl⟩|⟨b,cap,cs,e,z,M,A,C,D,G,N⟩
 ·refine⟨none,D3 m,by simp [Gh.add],by simp [Gh.add],?_,.inl ⟨rfl,by simp [Gh.add],by simp [Gh.add]⟩⟩;exact⟨by simp,by simp,by simp⟩
 ·refine⟨some b,D3 m,by simp [Gh.add],by simp [Gh.add],?_,.inr ⟨b,cap,cs,e,by simp [Gh.add],z,by simp [Gh.add,A],C,D,G,fun i O=>?_⟩⟩
  ·rw[d];refine⟨fun i x n K=>?_,fun i j x y c n L s p q k=>?_,fun i x c n _ k=>?_⟩
   ·rw[R1];exact f.rd i x n K
   ·rw[R1]at k⊢;exact f.ds i j x y c n L s p q k
   ·rw[R1]at k;simp only[Gh.add,if_true]
    grind
  ·rw[d,R1];grind
theorem YK.obj{J:Nat->Prop}{d t:Ty}{m:List (El d×List (El t))}{b:Nat}(h:YK w g.I J d t m (.map (some b)))(id:Nat):∃r,ORel w (g.add id (.sl t) (some b) undef r) J id (.mrows d t m 0 none):=by
 obtain⟨row,x,es,clock,j,n,p,f,q,s,y,u⟩:=h;cases j;have c:(g.add id (.sl t) (some b) undef (rowK row)).row id d=row:=by funext k;simp [Gh.add,ZlC]
 refine⟨rowK row,by simp [Gh.add],by simp [Gh.add],?_,s,?_,b,es,clock,by simp [Gh.add],n,p,f,?_⟩
 ·rw[c];simpa [Gh.add] using q
 ·grind
 ·rw[c];exact u.mono fun kv e i=>⟨⟨by simp only[CV];exact i.1.1,.inr (by simpa [AV.isAgg] using i.1.2)⟩,i.2⟩
theorem Zek{t:Ty}{x:AV}{val:Value}{y:List (List (El t))}{ids l l' :List Nat}(e:RH B H w g ow)(c:VR w g x val)(h:(Yf t x).run H l=some ((y,ids),l')):JQ w g.I (ZF H ow ids) t y val/\(ids=[]\/ ∃id,ids=[id]/\H id≠none):=by
 unfold Yf at h;split at h
 ·rename_i id;rw[ZN]at h;split at h
  ·rename_i m xs u d;simp only[Zu,Zd,Vd]at h;obtain⟨n,k,⟨rfl,rfl⟩,_⟩:=h;obtain⟨i,rfl⟩:=Kv k;cases i;obtain⟨_,j⟩:=c.vw;rw[j];exact⟨(JQ.of_obj (e.objs id _ d).2).mono (fun _ _=>rfl) (by simp) (fun b f=>⟨id,by simp,by grind,f⟩) (by simp),by grind⟩
  ·simp [Zb]at h
 ·simp only[Zd,Vd]at h;obtain⟨⟨rfl,rfl⟩,_⟩:=h;exact⟨⟨[],RL.nil,.inl ⟨rfl,c.nils⟩⟩,.inl rfl⟩
 ·simp [Zb]at h
def Gh.bump(g:Gh)(id v:Nat)(r:(b:Ty)->El b->Value):Gh:=
 {g with ver:=fun k=>if k=id then v else g.ver k,row:=fun k=>if k=id then r else g.row k}
theorem Gh.le_bump{g:Gh}{id v:Nat}{r:(b:Ty)->El b->Value}(h:g.ver id<v):g.Le (g.bump id v r) where
 I:=fun _ h=>h
 K:=fun _ h=>h
 ty:=fun _ _=>rfl
 blk:=fun _ _=>rfl
 slv:=fun _ _=>rfl
 ver:=fun k _=>by
  show g.ver k<=if k=id then v else g.ver k
  grind
 row:=fun k _ e=>by
  have e:(if k=id then v else g.ver k)=g.ver k:=e
  show (if k=id then r else g.row k)=g.row k
  grind
theorem RH.bump{w' :World}(h:RH B H w g ow){id v:Nat}{r:(O:Ty)->El O->Value}{C:KO}{J:Nat->Prop}(G:g.K id)(N:g.ver id<v)
 (x:∀b,g.I b\/(∃k,k≠id/\H k≠none/\ow k b)->w'.heap[b]? =w.heap[b]?) (M:w.heap.size<=w'.heap.size) (y:w'.os=w.os) (j:w'.tape=w.tape) (m:Ym w' w)
 (i:∀b,b<B.w0.heap.size->¬B.own0 b->w'.heap[b]? =w.heap[b]?)
 (D:∀b,J b->¬g.I b/\b<w'.heap.size/\(B.own0 b\/B.w0.heap.size<=b)/\ ∀k,k≠id->H k≠none->¬ow k b) (L:ORel w' (g.bump id v r) J id C):RH B (ZO H id (some C)) w' (g.bump id v r) (JU ow id J) where
 objs:=fun k o u=>by
  by_cases c:k=id
  ·subst c;rw[Xj]at u;cases u;rw[JI];exact⟨G,L⟩
  ·rw[Ko c]at u;rw[WQ c];obtain⟨f,e⟩:=h.objs k o u;exact⟨f,e.mono (fun b z=>by grind) (Gh.le_bump N) f (Zf c) (by grind)⟩
 dist:=fun k A b f e n s=>by
  by_cases c:k=id<;>by_cases d:A=id
  ·omega
  ·subst c;rw[Ko d]at e;rw[JI]at n;rw[WQ d]at s
   grind
  ·subst d;rw[Ko c]at f;rw[JI]at s;rw[WQ c]at n
   grind
  ·rw[Ko c]at f;rw[Ko d]at e;rw[WQ c]at n;rw[WQ d]at s;exact h.dist k A b f e n s
 sep:=fun k b f e=>by
  by_cases c:k=id
  ·subst c;rw[JI]at e;obtain⟨p,q,r,_⟩:=D b e;exact⟨p,q,r⟩
  ·rw[Ko c]at f;rw[WQ c]at e;obtain⟨p,q,r⟩:=h.sep k b f e;exact⟨p,by omega,r⟩
 ilt:=fun b z=>by have:=h.ilt b z;omega
 inew:=h.inew
 os:=y.trans h.os
 tape:=j.trans h.tape
 output:=m.trans h.output
 size:=by have:=h.size;omega
 kept:=fun b f e=>(i b f e).trans (h.kept b f e)
theorem ZlF{I J:Nat->Prop}{t:Ty}{xs:List (El t)}{k:Value}(h:K7 w I J t xs k){i:Nat}{x:El t}(u:xs[i]? =some x):
 ∃b cap cs e css c,k=.slice (some ⟨b,0,none⟩) xs.length cap/\J b/\w.heap[b]? =some (.cells cs e (0,0))/\xs.length<=cap/\cap*t.size<=cs.size/\
  Fa (Rd w I t) xs css/\css[i]? =some c/\Rd w I t x c/\ ∃r,cs.toList=(css.take i).flatten++c++((css.drop (i+1)).flatten++r)/\(css.take i).flatten.length=i*t.size/\
   ∀c',(css.set i c').flatten++r=(css.take i).flatten++c' ++((css.drop (i+1)).flatten++r):=by
 rcases h with ⟨rfl,_⟩|⟨b,cap,cs,e,css,n,m,p,q,s,d,r,z⟩
 ·grind
 ·obtain⟨c,j,f⟩:=d.get i x u;obtain⟨A,y,C⟩:=DQ j t.size (Rd.all_length d);exact⟨b,cap,cs,e,css,c,n,m,p,q,s,d,j,f,r,by grind,y,by grind⟩
theorem Zc1(z:RH B H w g ow){id ver:Nat}{p:Ty}{k:El p}(_hK:g.K id){r:(t:Ty) ×List (El t)}{l l' :List Nat}(h:(XZ id ver p k).run H l=some (r,l')):
 H id≠none/\g.ty id=.sl r.1/\g.ver id=ver/\K7 w g.I (ow id) r.1 r.2 (g.row id p k):=by
 simp only[XZ]at h;rw[ZN]at h;split at h
 ·rename_i t xs u n;simp only[ZD,Zu,Zd,Zb,ZJ,ZY]at h;obtain⟨d,i,C,x,s,rfl,_⟩:=h;have d:=Via d;obtain⟨rfl,rfl⟩:=Kv C;obtain⟨_,j,b,c,_⟩:=z.objs id _ n;unfold idx at s;split at s
  ·rename_i G;have J:=c.rd i.toNat x s (by simp)
   grind
  grind
 ·rename_i D t m u n;simp only[ZD,Zu,Zd,Zb,ZJ,ZY,Va]at h;obtain⟨⟨d,f⟩,y,q,rfl,_⟩:=h;have d:=Via d;obtain⟨rfl,rfl⟩:=Kv q;obtain⟨_,j,b,c,_,e,_⟩:=z.objs id _ n;rw[n];refine⟨by simp,j,b.trans d,?_⟩;simp only
  cases A:ZK (Zj p) y m with
  |none=>exact .inl ⟨rfl,e y (Zaj (Df f) A)⟩
  |some x=>exact c.rd y x (Zc8 (Df f) A) (by simp)
 ·simp [Zb]at h
theorem Zah(e:RH B H w g ow){id ver:Nat}{b:Ty}{k:El b}{v:Value}(f:VR w g (.nw id ver b k) v){r:(t:Ty) ×List (El t)}{l l' :List Nat}(h:(XZ id ver b k).run H l=some (r,l')):
 H id≠none/\g.ty id=.sl r.1/\g.ver id=ver/\v=g.row id b k/\K7 w g.I (ow id) r.1 r.2 v:=by
 obtain⟨d,_,_,c⟩:=f.nw;obtain⟨i,j,m,n⟩:=Zc1 e d h
 grind
end
end Tr
end
