/- The data of the abstract machine: type codes, their Lean types, what it means that cells of memory read as a datum; abstract values, and what it means that a value of the model is one. Conditions: none (definitions and monotonicity). -/
import Derived.Orders
import Derived.Laws.Cells
import Derived.Laws.CopyRow
import Derived.Laws.Tables
import Derived.Laws.Rows
import Derived.Laws.World
import Derived.Laws.AppendOwn
open Array renaming getElem?_eq_getElem ->Vz,toList_push ->Vla,toList ->Vxa
open BitVec renaming ofInt ->Vm
open Bool renaming and_eq_true ->Va,false_eq_true ->Vf,not_eq_true' ->Vba,not_eq_true ->Vpa,or_eq_true ->Vsa,not_false ->Vua,false_and ->Vva,and_true ->Vwa
open List renaming length_append ->Vi,getElem?_append_right ->Vo,range ->Vp,map_cons ->Vq,replicate ->Vt,append_inj ->Vu,getD_eq_getElem?_getD ->Vy,getElem?_eq_some_iff ->Vaa,getElem?_append_left ->Vca,isEmpty_iff ->Vda,mem_append ->Vga,take_append_drop ->Vha,mem_cons ->Vka,nodup_append ->Vma,flatten_cons ->Vna,all_eq_true ->Voa,map_append ->Vqa,nodup_cons ->Vta,mem_map ->Vya
open Nat renaming beq ->Vc,blt ->Vg,le_refl ->Vl,le_trans ->Vv,ble ->Vw,zero_add ->Vea,eq_of_beq_eq_true ->Via
open Option renaming isSome_none ->Vr,bind_eq_some_iff ->Vfa
open Prod renaming fst ->Ve,snd ->Vra,ext ->Vza
open Prod.mk renaming injEq ->Vd,inj ->Vk
open Go.Result renaming andThen_ok ->Vj
open Go.Sem renaming run_bind ->Vn,run_pure ->Vs
open Go.Value renaming oneCell' ->Vb,cells ->Vh,pointer ->Vja,slice ->Vab
open Go.World renaming cell? ->Vx
open Option renaming some ->Ua,none ->Ub
open Bool renaming true ->Uc,false ->Ud
open Decidable renaming decide ->Ue
section
namespace Tr
theorem Zj{p:Prop}[Decidable p](h:p):decide p=true:=decide_eq_true h
theorem Zr{p:Prop}[Decidable p](h:¬p):decide p=false:=decide_eq_false h
theorem Za{α:Type _}{β:Type _}(a:α)(f:α->Option β):(Ua a).bind f=f a:=rfl
theorem Ze{α:Sort _}(a b:α):cond Uc a b=a:=rfl
theorem Zd{α:Sort _}(a b:α):cond Ud a b=b:=rfl
theorem Zv{c:Prop}{h:Decidable c}(k:c){α:Sort _}{t e:α} :ite c t e=t:=if_pos k
theorem Zg{c:Prop}{h:Decidable c}(k:¬c){α:Sort _}{t e:α} :ite c t e=e:=if_neg k
theorem KD{p:Prop}[Decidable p]:(decide p=Uc)=p:=decide_eq_true_eq
theorem ZP(p:Prop):(p/\False)=False:=and_false p
theorem Z6(p:Prop):(p\/False)=p:=or_false p
theorem Kj{α:Type _}[BEq α][LawfulBEq α]{a b:α} :a==b↔a=b:=beq_iff_eq
theorem Xq{p:Prop}[Decidable p](h:decide p=Uc):p:=of_decide_eq_true h
theorem ZB{α:Type _}(a b:α):(Ua a=Ua b)=(a=b):=Option.some.injEq a b
theorem Ky{α:Type _}{a b:α}(h:Ua a=Ua b):a=b:=Option.some.inj h
theorem Xe{α:Type _}(a:α)(l:List α)(b:α)(m:List α):(a::l=b::m)=(a=b/\l=m):=List.cons.injEq a l b m
open Go
inductive Ty where
 |int (k:IntKind)
 |bool
 |str
 |sl (t:Ty)
 |unit
 |prod (a b:Ty)
 |arr (n:Nat) (t:Ty)
 |ref
 |pt (t:Ty)
 |lk (a b:Ty)
 |pn (t:Ty)
 deriving DecidableEq
@[reducible] def El:Ty->Type
  |.int _=>Int
  |.bool=>Bool
  |.str=>List UInt8
  |.sl t=>List (El t)
  |.unit=>Unit
  |.prod a b=>El a×El b
  |.arr _ t=>List (El t)
  |.ref=>Unit
  |.pt t=>Option (El t)
  |.lk a b=>List (El a×El b)
  |.pn t=>Option (Nat×El t)
def Ty.size:Ty->Nat
 |.unit=>0
 |.prod a b=>a.size+b.size
 |.arr n t=>n*t.size
 |_=>1
def Ty.agg:Ty->Bool
 |.unit=>Uc
 |.prod _ _=>Uc
 |.arr _ _=>Uc
 |_=>Ud
def Kw(w:World)(b off:Nat)(l:List Value):Prop:= ∀j,(h:j<l.length)->w.cell? ⟨b,off+j,Ub⟩=Ua l[j]
def Fa{α β:Type}(r:α->β->Prop):List α->List β->Prop
 |[],[]=>True
 |a::l,b::m=>r a b/\Fa r l m
 |_,_=>False
def Hx(w:World)(I:Nat->Prop){α:Type}(r:α->List Value->Prop):Option α->List Value->Prop
 |none,cs=>cs=[.pointer Ub]
 |some y,cs=>∃b cells e,cs=[.pointer (Ua ⟨b,0,Ub⟩)]/\I b/\w.heap[b]? =Ua (.cells cells e (0,0))/\r y cells.toList
def YN(w:World)(I:Nat->Prop){α:Type}(r:α->List Value->Prop):Option (Nat×α)->List Value->Prop
 |none,cs=>cs=[.pointer Ub]
 |some y,cs=>∃cells e,cs=[.pointer (Ua ⟨y.1,0,Ub⟩)]/\I y.1/\w.heap[y.1]? =Ua (.cells cells e (0,0))/\r y.2 cells.toList
def XF(w:World)(I:Nat->Prop){α β:Type}(e:α->List Value->Prop)(f:β->List Value->Prop):List (α×β)->List Value->Prop
 |[],cs=>cs=[.pointer Ub]
 |y::l,cs=>∃b off c cl d,cs=[.pointer (Ua ⟨b,off,Ub⟩)]/\I b/\Kw w b off (c++(cl++d))/\e y.1 c/\XF w I e f l cl/\f y.2 d
def Rd(w:World)(I:Nat->Prop):(t:Ty)->El t->List Value->Prop
 |.int k,x,cs=>cs=[.int k x]
 |.bool,x,cs=>cs=[.bool x]
 |.str,x,cs=>cs=[.string ⟨x.toArray⟩]
 |.sl t,x,cs=>∃a cap c,cs=[.slice a x.length cap]/\Fa (Rd w I t) x c/\(x≠ []->∃b off,a=Ua ⟨b,off,Ub⟩/\I b/\Kw w b off c.flatten)/\x.length<=cap
 |.unit,_,cs=>cs=[]
 |.prod a b,x,cs=>∃d e,cs=d++e/\Rd w I a x.1 d/\Rd w I b x.2 e
 |.arr n t,x,cs=>x.length=n/\ ∃c,cs=c.flatten/\Fa (Rd w I t) x c
 |.ref,_,_=>False
 |.pt t,x,cs=>Hx w I (Rd w I t) x cs
 |.lk a b,x,cs=>XF w I (Rd w I a) (Rd w I b) x cs
 |.pn t,x,cs=>YN w I (Rd w I t) x cs
theorem Fa.mono{α β:Type}{r s:α->β->Prop}(h:∀a b,r a b->s a b):∀{l:List α}{m:List β},Fa r l m->Fa s l m
 |[],[],_=>trivial
 |_::_,_::_,⟨p,q⟩=>⟨h _ _ p,Fa.mono h q⟩
theorem Fa.length{α β:Type}{r:α->β->Prop} :∀{l:List α}{m:List β},Fa r l m->l.length=m.length
 |[],[],_=>rfl
 |_::_,_::_,⟨_,q⟩=>by simp [Fa.length q]
theorem Fa.get{α β:Type}{r:α->β->Prop} :∀{l:List α}{m:List β} (_:Fa r l m) (i:Nat) (a:α),l[i]? =Ua a->∃b,m[i]? =Ua b/\r a b
 |[],[],_,i,a,h=>by grind
 |x::l,y::m,⟨p,q⟩,i,a,h=>by
  cases i with
  |zero=>grind
  |succ i=>simp at h;obtain⟨b,c,d⟩:=Fa.get q i a h;grind
theorem Fa.append{α β:Type}{r:α->β->Prop} :∀{l l' :List α}{m b:List β},Fa r l m->Fa r l' b->Fa r (l++l') (m++b)
 |[],_,[],_,_,h=>h
 |_::_,_,_::_,_,⟨p,q⟩,h=>⟨p,Fa.append q h⟩
theorem Fa.take{α β:Type}{r:α->β->Prop} :∀{l:List α}{m:List β} (n:Nat),Fa r l m->Fa r (l.take n) (m.take n)
 |[],[],n,_=>by grind
 |_::_,_::_,0,_=>by simp [Fa]
 |_::_,_::_,n+1,⟨p,q⟩=>by simp only[List.take_succ_cons];exact⟨p,Fa.take n q⟩
theorem Fa.drop{α β:Type}{r:α->β->Prop} :∀{l:List α}{m:List β} (n:Nat),Fa r l m->Fa r (l.drop n) (m.drop n)
 |[],[],n,_=>by grind
 |_::_,_::_,0,h=>h
 |_::_,_::_,n+1,⟨_,q⟩=>by simp only[List.drop_succ_cons];exact Fa.drop n q
theorem Fa.set{α β:Type}{r:α->β->Prop} :∀{l:List α}{m:List β} (n:Nat) {a:α}{b:β},Fa r l m->r a b->Fa r (l.set n a) (m.set n b)
 |[],[],_,_,_,_,_=>by grind
 |_::_,_::_,0,_,_,⟨_,q⟩,h=>⟨h,q⟩
 |_::_,_::_,n+1,_,_,⟨p,q⟩,h=>⟨p,Fa.set n q h⟩
theorem Fa.eraseIdx{α β:Type}{r:α->β->Prop} :∀{l:List α}{m:List β} (n:Nat),Fa r l m->Fa r (l.eraseIdx n) (m.eraseIdx n)
 |[],[],_,_=>trivial
 |_::_,_::_,0,⟨_,q⟩=>q
 |_::_,_::_,n+1,⟨p,q⟩=>⟨p,Fa.eraseIdx n q⟩
def Km(I:Nat->Prop)(w w' :World):Prop:= ∀b,I b->w'.heap[b]? =w.heap[b]?
theorem Zqz{w w' :World}{a:Addr}(h:w'.heap[a.block]? =w.heap[a.block]?):w'.cell? a=w.cell? a:=by simp [Vx,h]
theorem Kw.mono{w w' :World}{b off:Nat}{l:List Value}(h:w'.heap[b]? =w.heap[b]?)(d:Kw w b off l):Kw w' b off l:=by intro j c;rw[Zqz (by simpa using h)];exact d j c
theorem Hx.mono{w w' :World}{I d:Nat->Prop}{α:Type}{r i:α->List Value->Prop}(q:Km I w w')(n:∀b,I b->d b)(p:∀x c,r x c->i x c):∀(x:Option α) (cs:List Value),Hx w I r x cs->Hx w' d i x cs
 |none,_,h=>h
 |some _,_,⟨b,c,e,j,f,k,m⟩=>⟨b,c,e,j,n _ f,(q _ f).trans k,p _ _ m⟩
theorem XF.mono{w w' :World}{I f:Nat->Prop}{α β:Type}{p d:α->List Value->Prop}{q e:β->List Value->Prop}(n:Km I w w')(j:∀b,I b->f b)(k:∀x c,p x c->d x c)(m:∀x c,q x c->e x c):∀(x:List (α×β)) (cs:List Value),XF w I p q x cs->XF w' f d e x cs
 |[],_,h=>h
 |_::l,_,⟨b,off,r,cl,s,u,i,y,z,A,C⟩=>⟨b,off,r,cl,s,u,j _ i,y.mono (n _ i),k _ _ z,XF.mono n j k m l cl A,m _ _ C⟩
theorem YN.mono{w w' :World}{I d:Nat->Prop}{α:Type}{r i:α->List Value->Prop}(q:Km I w w')(n:∀b,I b->d b)(p:∀x c,r x c->i x c):∀(x:Option (Nat×α)) (cs:List Value),YN w I r x cs->YN w' d i x cs
 |none,_,h=>h
 |some _,_,⟨c,e,j,f,k,m⟩=>⟨c,e,j,n _ f,(q _ f).trans k,p _ _ m⟩
theorem YN.length{w:World}{I:Nat->Prop}{α:Type}{r:α->List Value->Prop} :∀{x:Option (Nat×α)}{cs:List Value},YN w I r x cs->∃a,cs=[.pointer a]
 |none,_,h=>⟨_,h⟩
 |some _,_,⟨_,_,h,_⟩=>⟨_,h⟩
theorem Hx.length{w:World}{I:Nat->Prop}{α:Type}{r:α->List Value->Prop} :∀{x:Option α}{cs:List Value},Hx w I r x cs->∃a,cs=[.pointer a]
 |none,_,h=>⟨_,h⟩
 |some _,_,⟨_,_,_,h,_⟩=>⟨_,h⟩
theorem XF.length{w:World}{I:Nat->Prop}{α β:Type}{b:α->List Value->Prop}{c:β->List Value->Prop} :∀{x:List (α×β)}{cs:List Value},XF w I b c x cs->∃a,cs=[.pointer a]
 |[],_,h=>⟨_,h⟩
 |_::_,_,⟨_,_,_,_,_,h,_⟩=>⟨_,h⟩
theorem Rd.mono{w w' :World}{I q:Nat->Prop}(e:Km I w w')(d:∀b,I b->q b):∀(t:Ty) (x:El t) (cs:List Value),Rd w I t x cs->Rd w' q t x cs
 |.int _,_,_,h=>h
 |.bool,_,_,h=>h
 |.str,_,_,h=>h
 |.sl t,x,cs,h=>by
  obtain⟨a,cap,i,j,k,m,C⟩:=h;refine⟨a,cap,i,j,k.mono fun y c f=>Rd.mono e d t y c f,fun p=>?_,C⟩;obtain⟨b,off,z,r,A⟩:=m p
  exact⟨b,off,z,d _ r,A.mono (e _ r)⟩
 |.unit,_,_,h=>h
 |.prod a b,x,cs,h=>by
  obtain⟨s,u,j,k,m⟩:=h
  exact⟨s,u,j,Rd.mono e d a _ _ k,Rd.mono e d b _ _ m⟩
 |.arr n t,x,cs,h=>by
  obtain⟨j,i,k,m⟩:=h
  exact⟨j,i,k,m.mono fun y c f=>Rd.mono e d t y c f⟩
 |.ref,_,_,h=>h.elim
 |.pt t,x,cs,h=>Hx.mono e d (fun y c f=>Rd.mono e d t y c f) x cs h
 |.lk a b,x,cs,h=>XF.mono e d (fun y c f=>Rd.mono e d a y c f) (fun y c f=>Rd.mono e d b y c f) x cs h
 |.pn t,x,cs,h=>YN.mono e d (fun y c f=>Rd.mono e d t y c f) x cs h
theorem JM{css:List (List Value)}{n:Nat}(h:∀c∈css,c.length=n):css.flatten.length=css.length*n:=by
 induction css with
 |nil=>simp
 |cons c l b=>
  grind
theorem Fa.all_right{α β:Type}{r:α->β->Prop}{p:β->Prop}(d:∀a b,r a b->p b):∀{l:List α}{m:List β},Fa r l m->∀b∈m,p b
 |[],[],_=>by simp
 |_::_,y::m,⟨h,q⟩=>by
  intro b c;simp at c;rcases c with rfl|c
  ·grind
  ·exact Fa.all_right d q b c
theorem Rd.length{w:World}{I:Nat->Prop} :∀(t:Ty) (x:El t) (cs:List Value),Rd w I t x cs->cs.length=t.size
 |.int _,_,_,h=>by rw[h];rfl
 |.bool,_,_,h=>by rw[h];rfl
 |.str,_,_,h=>by rw[h];rfl
 |.sl t,x,cs,h=>by
  obtain⟨a,cap,f,d,_⟩:=h
  rw[d];rfl
 |.unit,_,_,h=>by rw[h];rfl
 |.prod a b,x,cs,h=>by
  obtain⟨k,m,d,i,e⟩:=h
  rw[d,Vi,Rd.length a _ _ i,Rd.length b _ _ e];rfl
 |.arr n t,x,cs,h=>by
  obtain⟨d,f,i,e⟩:=h
  rw[i,JM (e.all_right fun y c j=>Rd.length t y c j), <-e.length,d];rfl
 |.ref,_,_,h=>h.elim
 |.pt t,x,cs,h=>by obtain⟨a,rfl⟩:=Hx.length h;rfl
 |.lk a b,x,cs,h=>by obtain⟨p,rfl⟩:=XF.length h;rfl
 |.pn t,x,cs,h=>by obtain⟨a,rfl⟩:=YN.length h;rfl
theorem Rd.all_length{w:World}{I:Nat->Prop}{t:Ty}{x:List (El t)}{css:List (List Value)}(h:Fa (Rd w I t) x css):∀c∈css,c.length=t.size:=
 h.all_right fun y c b=>Rd.length t y c b
mutual
inductive AV where
 |d (t:Ty) (x:El t)
 |junk
 |tup (l:Zo)
 |agg (l:Zo)
 |dp (t:Ty) (x:El t)
 |ptr (id:Nat) (path:List Nat)
 |vw (id:Nat)
 |vs (id lo n:Nat)
 |vp (id i:Nat) (path:List Nat)
 |mp (id:Nat)
 |fn (f:FuncId) (c:Zo)
 |nilr (p:Bool)
 |nils
 |jk (n:Nat)
 |nw (id ver:Nat) (b:Ty) (k:El b)
 |np (id ver:Nat) (b:Ty) (k:El b) (i:Nat) (path:List Nat)
 |op (id i:Nat)
inductive Zo where
 |nil
 |cons (v:AV) (l:Zo)
end
def ZW:Ty->List Nat->Option (Nat×Ty)
 |t,[]=>Ua (0,t)
 |.prod a b,i::p=>match i with
  |0=>ZW a p
  |n+1=>(ZW b (n::p)).map fun r=>(r.1+a.size,r.2)
 |.arr n t,i::p=>if i<n then(ZW t p).map fun r=>(r.1+i*t.size,r.2) else Ub
 |_,_::_=>Ub
def Hs:Ty->List Nat->Option Ty
 |t,[]=>Ua t
 |.prod a b,i::p=>match i with
  |0=>Hs a p
  |n+1=>Hs b (n::p)
 |.arr _ t,_::p=>Hs t p
 |_,_::_=>Ub
structure Gh where
 I:Nat->Prop
 K:Nat->Prop
 ty:Nat->Ty
 blk:Nat->Option Nat
 slv:Nat->Value
 ver:Nat->Nat
 row:Nat->(kt:Ty)->El kt->Value
structure Gh.Le (g g' :Gh):Prop where
 I:∀b,g.I b->g'.I b
 K:∀id,g.K id->g'.K id
 ty:∀id,g.K id->g'.ty id=g.ty id
 blk:∀id,g.K id->g'.blk id=g.blk id
 slv:∀id,g.K id->g'.slv id=g.slv id
 ver:∀id,g.K id->g.ver id<=g'.ver id
 row:∀id,g.K id->g'.ver id=g.ver id->g'.row id=g.row id
theorem Gh.Le.refl(g:Gh):g.Le g:=⟨fun _ h=>h,fun _ h=>h,by simp,by simp,by simp,by omega,by simp⟩
theorem Gh.Le.trans{a b c:Gh}(h:a.Le b)(k:b.Le c):a.Le c:=
 ⟨fun i p=>k.I _ (h.I i p),fun i p=>k.K _ (h.K i p),fun i p=>(k.ty _ (h.K i p)).trans (h.ty i p),fun i p=>(k.blk _ (h.K i p)).trans (h.blk i p),fun i p=>(k.slv _ (h.K i p)).trans (h.slv i p),fun i p=>Vv (h.ver i p) (k.ver _ (h.K i p)),fun i p e=>by have d:=h.ver i p;have f:=k.ver _ (h.K i p);exact(k.row _ (h.K i p) (by omega)).trans (h.row i p (by omega))⟩
def DW:Ty->Ty
 |.sl t=>t
 |t=>t
def Zcb(v:Value)(size lo n:Nat)(cs:List Value):Prop:=
 (v=.slice Ub 0 0/\lo=0/\n=0/\cs=[.slice Ub 0 0])\/
 ∃b len cap m,v=.slice (Ua ⟨b,0,Ub⟩) len cap/\lo+n<=len/\n<=m/\lo+m<=cap/\cs=[.slice (Ua ⟨b,if m=0 then 0 else lo*size,Ub⟩) n m]
def WL:Nat:=1000
def Gc(f:FuncId):FuncId:=bif Vg f WL then f else f - WL
def J4(f:FuncId)(b:List Value):Value:=bif Vg f WL then .func (.func f) #[] b.toArray else .func (.func (f - WL)) b.toArray #[]
theorem ZbK(f:FuncId)(b:List Value):(Vg f WL=Uc/\J4 f b=.func (.func f) #[] b.toArray)\/(Vg f WL=Ud/\J4 f b=.func (.func (f - WL)) b.toArray #[]):=by
 unfold J4
 cases h:Vg f WL<;>simp
theorem Zsy(f:FuncId)(b:List Value):(J4 f b).oneCell'=true:=by
 rcases ZbK f b with ⟨_,h⟩|⟨_,h⟩<;>rw[h]<;>rfl
theorem Zsw(f:FuncId)(b:List Value):(J4 f b).cells= #[J4 f b]:=by
 rcases ZbK f b with ⟨_,h⟩|⟨_,h⟩<;>rw[h]<;>rfl
theorem Zsx{f:FuncId}{c b:List Value}(h:J4 f c=J4 f b):c=b:=by
 unfold J4 at h
 cases d:Vg f WL<;>rw[d]at h
 ·simp only[Zd,Value.func.injEq,true_and,and_true]at h;simpa using congrArg Vxa h
 ·simp only[Ze,Value.func.injEq,true_and]at h;simpa using congrArg Vxa h
mutual
def CV(w:World)(g:Gh):AV->List Value->Prop
 |.d t x,cs=>Rd w g.I t x cs
 |.junk,_=>True
 |.tup _,_=>False
 |.agg l,cs=>Z9 w g l cs
 |.dp t x,cs=>∃b off c,cs=[.pointer (Ua ⟨b,off,Ub⟩)]/\g.I b/\Kw w b off c/\Rd w g.I t x c
 |.ptr id p,cs=>g.K id/\ ∃o t b,ZW (g.ty id) p=Ua (o,t)/\g.blk id=Ua b/\cs=[.pointer (Ua ⟨b,o,Ub⟩)]
 |.vw id,cs=>g.K id/\cs=[g.slv id]/\(g.slv id).oneCell'=Uc
 |.vs id lo n,cs=>g.K id/\Zcb (g.slv id) (g.ty id).size lo n cs
 |.vp id i p,cs=>g.K id/\ ∃o t b,ZW (g.ty id) p=Ua (o,t)/\g.blk id=Ua b/\cs=[.pointer (Ua ⟨b,i* (g.ty id).size+o,Ub⟩)]
 |.mp id,cs=>g.K id/\ ∃b,g.blk id=Ua b/\cs=[.map (Ua b)]
 |.fn f l,cs=>∃m:List Value,cs=[J4 f m]/\Z9 w g l m
 |.nilr p,cs=>cs=[.pointer Ub]\/p=Ud/\cs=[.nilFunc]\/p=Ud/\cs=[.map Ub]
 |.nils,cs=>cs=[.slice Ub 0 0]
 |.jk n,cs=>cs.length=n/\ ∀v∈cs,v.oneCell' =Uc
 |.nw id ver e k,cs=>g.K id/\ver<=g.ver id/\ ∃v,cs=[v]/\v.oneCell' =Uc/\(g.ver id=ver->v=g.row id e k)
 |.np id ver e k i p,cs=>g.K id/\ver<=g.ver id/\ ∃a,cs=[.pointer (Ua a)]/\(g.ver id=ver->∃b len cap o t,g.row id e k=.slice (Ua ⟨b,0,Ub⟩) len cap/\ZW (DW (g.ty id)) p=Ua (o,t)/\a=⟨b,i* (DW (g.ty id)).size+o,Ub⟩)
 |.op id i,cs=>g.K id/\ ∃b off len cap,g.slv id=.slice (Ua ⟨b,off,Ub⟩) len cap/\cs=[.pointer (Ua ⟨b,off+i,Ub⟩)]
def Z9(w:World)(g:Gh):Zo->List Value->Prop
 |.nil,cs=>cs=[]
 |.cons v l,cs=>∃h j,cs=h++j/\CV w g v h/\Z9 w g l j
end
theorem ZbU{w:World}{g:Gh}{p:Bool}{cs:List Value}(h:CV w g (.nilr p) cs):cs=[.pointer Ub]\/cs=[.nilFunc]\/cs=[.map Ub]:=by
 simp only[CV]at h;rcases h with h|⟨_,h⟩|⟨_,h⟩
 ·exact .inl h
 ·exact .inr (.inl h)
 ·exact .inr (.inr h)
theorem Zl9{w:World}{g:Gh}{cs:List Value}(h:CV w g (.nilr Uc) cs):cs=[.pointer Ub]:=by
 simp only[CV]at h;rcases h with h|⟨h,_⟩|⟨h,_⟩
 ·exact h
 ·cases h
 ·cases h
mutual
theorem CV.mono{w w' :World}{g g' :Gh}(u:Km g.I w w')(j:g.Le g'):∀(v:AV) (cs:List Value),CV w g v cs->CV w' g' v cs
 |.d t x,cs,h=>Rd.mono u j.I t x cs h
 |.junk,_,_=>by simp [CV]
 |.tup _,_,h=>by simp [CV]at h
 |.agg l,cs,h=>by simp only[CV]at h⊢;exact Z9.mono u j l cs h
 |.dp t x,cs,h=>by
  simp only[CV]at h⊢;obtain⟨b,off,c,q,r,s,G⟩:=h
  exact⟨b,off,c,q,j.I _ r,s.mono (u _ r),Rd.mono u j.I t x c G⟩
 |.ptr id p,cs,h=>by
  simp only[CV]at h⊢;obtain⟨m,o,t,b,q,r,s⟩:=h
  exact⟨j.K _ m,o,t,b,by rw[j.ty _ m];exact q,by rw[j.blk _ m];exact r,s⟩
 |.vw id,cs,h=>by
  simp only[CV]at h⊢
  exact⟨j.K _ h.1,by rw[j.slv _ h.1];exact h.2⟩
 |.vs id lo n,cs,h=>by
  simp only[CV]at h⊢
  exact⟨j.K _ h.1,by rw[j.slv _ h.1,j.ty _ h.1];exact h.2⟩
 |.vp id i p,cs,h=>by
  simp only[CV]at h⊢;obtain⟨m,o,t,b,q,r,s⟩:=h
  exact⟨j.K _ m,o,t,b,by rw[j.ty _ m];exact q,by rw[j.blk _ m];exact r,by rw[j.ty _ m];exact s⟩
 |.mp id,cs,h=>by
  simp only[CV]at h⊢;obtain⟨m,b,q,r⟩:=h
  exact⟨j.K _ m,b,by rw[j.blk _ m];exact q,r⟩
 |.fn f l,cs,h=>by
  simp only[CV]at h⊢;obtain⟨D,q,r⟩:=h
  exact⟨D,q,Z9.mono u j l D r⟩
 |.nilr _,_,h=>by simpa only[CV] using h
 |.nils,_,h=>by simpa only[CV] using h
 |.jk _,_,h=>by simpa only[CV] using h
 |.nw id ver J k,cs,h=>by
  simp only[CV]at h⊢;obtain⟨m,z,v,q,r,s⟩:=h;have y:=j.ver _ m
  exact⟨j.K _ m,Vv z y,v,q,r,fun e=>by rw[j.row _ m (by omega)];exact s (by omega)⟩
 |.np id ver J k i p,cs,h=>by
  simp only[CV]at h⊢;obtain⟨m,z,a,q,s⟩:=h;have y:=j.ver _ m
  exact⟨j.K _ m,Vv z y,a,q,fun e=>by rw[j.row _ m (by omega),j.ty _ m];exact s (by omega)⟩
 |.op id i,cs,h=>by simp only[CV]at h⊢;exact⟨j.K _ h.1,by rw[j.slv _ h.1];exact h.2⟩
theorem Z9.mono{w w' :World}{g g' :Gh}(u:Km g.I w w')(j:g.Le g'):∀(l:Zo) (cs:List Value),Z9 w g l cs->Z9 w' g' l cs
 |.nil,_,h=>by simpa only[Z9] using h
 |.cons v l,cs,h=>by simp only[Z9]at h⊢;obtain⟨A,C,q,r,s⟩:=h;exact⟨A,C,q,CV.mono u j v A r,Z9.mono u j l C s⟩
end
def AV.isAgg:AV->Bool
 |.d t _=>t.agg
 |.agg _=>Uc
 |_=>Ud
def Kf:Value->Bool
 |.agg _=>Uc
 |_=>Ud
theorem Zk6(f:FuncId)(b:List Value):Kf (J4 f b)=false:=by
 rcases ZbK f b with ⟨_,h⟩|⟨_,h⟩<;>rw[h]<;>rfl
def Ko(w:World)(g:Gh)(a:AV)(v:Value):Prop:=CV w g a v.cells.toList/\(a=.junk\/Kf v=a.isAgg)
def WK(w:World)(g:Gh):Zo->List Value->Prop
 |.nil,vs=>vs=[]
 |.cons a l,vs=>∃v r,vs=v::r/\Ko w g a v/\WK w g l r
def VR(w:World)(g:Gh):AV->Value->Prop
 |.tup l,v=>∃vs:List Value,v=.tuple vs.toArray/\WK w g l vs
 |a,v=>Ko w g a v
theorem Ko.mono{w w' :World}{g g' :Gh}(c:Km g.I w w')(b:g.Le g'){a:AV}{v:Value}(h:Ko w g a v):Ko w' g' a v:=⟨CV.mono c b _ _ h.1,h.2⟩
theorem WK.mono{w w' :World}{g g' :Gh}(c:Km g.I w w')(b:g.Le g'):∀{l:Zo}{vs:List Value},WK w g l vs->WK w' g' l vs
 |.nil,_,h=>h
 |.cons _ _,_,h=>by obtain⟨v,r,d,e,f⟩:=h;exact⟨v,r,d,e.mono c b,f.mono c b⟩
theorem VR.mono{w w' :World}{g g' :Gh}(c:Km g.I w w')(b:g.Le g'){a:AV}{v:Value}(h:VR w g a v):VR w' g' a v:=by
 cases a with
 |tup l=>obtain⟨vs,d,e⟩:=h;exact⟨vs,d,e.mono c b⟩
 |_=>exact Ko.mono c b h
theorem HB{w:World}{g:Gh}{v:Value} :VR w g .junk v:=⟨by simp [CV],.inl rfl⟩
end Tr
end
section
namespace Tr
open Go
@[reducible] def ZO (tn tq lt lb:Ty):Type:=El tn×El tq×El lt×List (List (El lb)) ×List (El lb) ×List (El lb)
def Jd(tn tq lt lb:Ty):Ty:=.prod tn (.prod tq (.prod lt (.prod (.sl (.sl (.pn lb))) (.prod (.sl (.pn lb)) (.prod (.sl (.pn lb)) .unit)))))
def Yc(tn tq lt lb:Ty):Ty:=.prod tn (.prod tq (.prod lt (.prod (.sl (.sl (.pt lb))) (.prod (.sl (.pt lb)) (.prod (.sl (.pt lb)) .unit)))))
def Zc2(tn tq lt:Ty){lb:Ty}(x:ZO tn tq lt lb):AV:=.agg (.cons (.d tn x.1) (.cons (.d tq x.2.1) (.cons (.d lt x.2.2.1) (.cons (.jk 1) (.cons (.jk 1) (.cons (.jk 1) .nil))))))
inductive K1 where
 |var (t:Ty) (c:AV)
 |vec (t:Ty) (xs:List (El t))
 |map (kt vt:Ty) (m:List (El kt×El vt))
 |rows (t:Ty) (xs:List (List (El t))) (ver:Nat) (hole:Option Nat)
 |mrows (kt t:Ty) (m:List (El kt×List (El t))) (ver:Nat) (hole:Option (El kt))
 |rng (kt vt:Ty) (rest:List (El kt×El vt)) (cur:Option (El kt×El vt))
 |dat (t:Ty) (xs:List (El t))
 |bld (T e:TypeId) (bs:List UInt8)
 |vco (lb:Ty) (xs:List (El (.pn lb)))
 |fnd (tn tq lt lb:Ty) (x:ZO tn tq lt lb)
mutual
def AV.fits:AV->Ty->Bool
 |.d c _,t=>c==t
 |.agg l,t=>l.fits t
 |.jk n,t=>n==t.size
 |.junk,_=>Ud
 |.tup _,_=>Ud
 |.vw _,.sl _=>Uc
 |.vs _ _ _,.sl _=>Uc
 |.nw _ _ _ _,.sl _=>Uc
 |.np _ _ _ _ _ _,.ref=>Uc
 |.nils,.sl _=>Uc
 |.dp _ _,.ref=>Uc
 |.ptr _ _,.ref=>Uc
 |.vp _ _ _,.ref=>Uc
 |.mp _,.ref=>Uc
 |.fn _ _,.ref=>Uc
 |.nilr _,.ref=>Uc
 |.dp _ _,.pt _=>Uc
 |.dp _ _,.lk _ _=>Uc
 |.ptr _ _,.pt _=>Uc
 |.ptr _ _,.lk _ _=>Uc
 |.nilr _,.pt _=>Uc
 |.nilr _,.lk _ _=>Uc
 |_,_=>Ud
def Zo.fits:Zo->Ty->Bool
 |.nil,.unit=>Uc
 |.cons v l,.prod a b=>v.fits a&&l.fits b
 |_,_=>Ud
end
def Wp(w:World)(I J:Nat->Prop)(t:Ty)(xs:List (El t))(d:Value):Prop:=
 (xs=[]/\d=.slice Ub 0 0)\/ ∃b cap cells e c,d=.slice (Ua ⟨b,0,Ub⟩) xs.length cap/\J b/\w.heap[b]? =Ua (.cells cells e (0,0))/\xs.length<=cap/\cap*t.size<=cells.size/\Fa (Rd w I t) xs c/\c.flatten<+:cells.toList
def Hc(w:World)(I J:Nat->Prop)(lb:Ty)(xs:List (El (.pn lb)))(c:Value):Prop:=
 (xs=[]/\c=.slice Ub 0 0)\/ ∃b off cap cells e d,c=.slice (Ua ⟨b,off,Ub⟩) xs.length cap/\J b/\w.heap[b]? =Ua (.cells cells e (0,0))/\xs.length<=cap/\off+cap<=cells.size/\Fa (fun x v=>Rd w I (.pn lb) x [v]) xs d/\d<+:cells.toList.drop off
def Wi:Value->Option Nat
 |.slice (Ua a) _ _=>Ua a.block
 |_=>Ub
structure RF {κ:Type} (w:World) (I J:Nat->Prop) (t:Ty) (top:Option Nat) (row:κ->Value) (c:κ->List (El t)->Prop) (hole:Option κ):Prop where
 rd:∀k x,c k x->hole≠Ua k->Wp w I J t x (row k)
 ds:∀k k' x x' b,c k x->c k' x' ->k≠k' ->hole≠Ua k->hole≠Ua k' ->Wi (row k)=Ua b->Wi (row k')≠Ua b
 tp:∀k x b,c k x->hole≠Ua k->Wi (row k)=Ua b->top≠Ua b
def Ix(es:Array MapEntry)(clock:Nat):Prop:=clock=es.size/\ ∀(i:Nat) (e:MapEntry),es[i]? =Ua e->e.born=i
def Bn(es:Array MapEntry)(clock:Nat):Prop:=(∀x∈es.toList,x.born<clock)/\(es.toList.map (·.born)).Nodup
theorem Bn.empty(c:Nat):Bn #[] c:=⟨by simp,by simp⟩
theorem Bn.push{es:Array MapEntry}{clock:Nat}(h:Bn es clock){e:MapEntry}(j:e.born=clock):Bn (es.push e) (clock+1):=by
 refine⟨fun x c=>?_,?_⟩
 ·rw[Vla]at c;rcases Vga.1 c with d|d
  ·exact Nat.lt_succ_of_lt (h.1 x d)
  grind
 ·rw[Vla,Vqa];refine Vma.2 ⟨h.2,by simp,fun a i b f=>?_⟩;simp at f;subst f;obtain⟨x,c,rfl⟩:=Vya.1 i;have:=h.1 x c;omega
theorem Bn.same{es es' :Array MapEntry}{clock:Nat}(h:Bn es clock)(c:es'.toList.map (·.born)=es.toList.map (·.born)):Bn es' clock:=by
 refine⟨fun x e=>?_,c▸h.2⟩;have:x.born∈es.toList.map (·.born):=by grind
 obtain⟨y,d,b⟩:=Vya.1 this;rw[<-b];exact h.1 y d
def HL(es:Array MapEntry)(seen:Array Nat):List MapEntry:=es.toList.filter fun e=> !seen.contains e.born
def u8s(l:List UInt8):List Value:=l.map fun b=>Value.int .u8 b.toNat
def Zcq(w:World)(J:Nat->Prop)(T e:TypeId)(c:List UInt8)(b:Nat):Prop:=
 J b/\ ∃p row,(p=.pointer Ub\/p=.pointer (Ua ⟨b,0,Ub⟩))/\w.heap[b]? =Ua (.cells #[p,row] T (0,0))/\w.ownsRow 0 e 1 row c.length (u8s c)/\(∀k,row.ownBlock=Ua k->k≠b/\J k)/\(c=[]->row=.slice Ub 0 0)
theorem Zcq.mono{w w' :World}{J c:Nat->Prop}{T e:TypeId}{d:List UInt8}{b:Nat}(s:∀b,J b->c b)(u:∀b,J b->w'.heap[b]? =w.heap[b]?)(h:Zcq w J T e d b):Zcq w' c T e d b:=by
 obtain⟨j,p,row,k,x,f,m,i⟩:=h;refine⟨s _ j,p,row,k,by grind,⟨f.1,?_⟩,by grind,i⟩;rcases f.2 with y|⟨g,cap,cur,rfl,n,q,r⟩
 ·grind
 ·exact .inr ⟨g,cap,cur,rfl,n,(u _ (m g rfl).2).trans q,r⟩
def RL(w:World)(I J:Nat->Prop)(t:Ty)(b:List Value)(xs:List (List (El t))):Prop:=
 b.length=xs.length/\RF w I J t Ub (fun i:Nat=>b.getD i undef) (fun i x=>xs[i]? =Ua x) Ub
def J9(w:World)(I J:Nat->Prop)(t:Ty)(xs:List (List (El t)))(v:Value):Prop:=
 ∃c,RL w I J t c xs/\((xs=[]/\v=.slice Ub 0 0)\/ ∃b cap cs e,J b/\(∀i x,xs[i]? =Ua x->Wi (c.getD i undef)≠Ua b)/\v=.slice (Ua ⟨b,0,Ub⟩) xs.length cap/\w.heap[b]? =Ua (.cells cs e (0,0))/\
  xs.length<=cap/\cap<=cs.size/\ ∀i,i<xs.length->cs[i]? =Ua (c.getD i undef))
def Kq{lb:Ty}(b:El lb->Nat)(y:El lb):El (.pn lb):=Ua (b y,y)
def JN{tn tq lt lb:Ty}(x:ZO tn tq lt lb):List (El lb):=x.2.2.2.1.flatten++x.2.2.2.2.1++x.2.2.2.2.2
def X2{tn tq lt lb:Ty}(b:El lb->Nat)(x:ZO tn tq lt lb):Prop:= ∀y∈JN x,∀c∈JN x,b y=b c->y=c
def Rn(w:World)(I J:Nat->Prop)(tn tq lt lb:Ty)(x:ZO tn tq lt lb)(b:Nat):Prop:=
 J b/\ ∃(d:El lb->Nat) (h f c:Nat->Prop),X2 d x/\(∀k,h k->J k/\k≠b/\ ¬f k/\ ¬c k)/\(∀k,f k->J k/\k≠b/\ ¬c k)/\(∀k,c k->J k/\k≠b)/\
   ∃cells e i j c3 m n p,w.heap[b]? =Ua (.cells cells e (0,0))/\cells.toList=i++(j++(c3++[m,n,p]))/\Rd w I tn x.1 i/\Rd w I tq x.2.1 j/\Rd w I lt x.2.2.1 c3/\
    J9 w I h (.pn lb) (x.2.2.2.1.map fun r=>r.map (Kq d)) m/\Hc w I f lb (x.2.2.2.2.1.map (Kq d)) n/\Wp w I c (.pn lb) (x.2.2.2.2.2.map (Kq d)) p
def ORel(w:World)(g:Gh)(ow:Nat->Prop)(id:Nat):K1->Prop
 |.var t c=>g.ty id=t/\c.fits t=Uc/\ ∃b cs e,g.blk id=Ua b/\ow b/\w.heap[b]? =Ua (.cells cs e (0,0))/\cs.size=t.size/\CV w g c cs.toList
 |.vec t xs=>g.ty id=t/\((xs=[]/\g.blk id=Ub/\g.slv id=.slice Ub 0 0)\/
   ∃b cap cs e p,g.blk id=Ua b/\ow b/\g.slv id=.slice (Ua ⟨b,0,Ub⟩) xs.length cap/\w.heap[b]? =Ua (.cells cs e (0,0))/\xs.length<=cap/\cap*t.size<=cs.size/\
    Fa (Rd w g.I t) xs p/\p.flatten<+:cs.toList)
 |.map h q m=>∃b es clock,g.blk id=Ua b/\ow b/\w.heap[b]? =Ua (.map es clock)/\Bn es clock/\Fa (fun kv e=>Ko w g (.d h kv.1) e.key/\Ko w g (.d q kv.2) e.val) m es.toList
 |.rows t xs ver f=>g.ty id=.sl t/\g.ver id=ver/\RF w g.I ow t (g.blk id) (fun i:Nat=>g.row id (.int .i64) (i:Int)) (fun i x=>xs[i]? =Ua x) f/\
   ((xs=[]/\g.blk id=Ub/\g.slv id=.slice Ub 0 0)\/
     ∃b cap cs e,g.blk id=Ua b/\ow b/\g.slv id=.slice (Ua ⟨b,0,Ub⟩) xs.length cap/\w.heap[b]? =Ua (.cells cs e (0,0))/\xs.length<=cap/\cap<=cs.size/\ ∀i:Nat,i<xs.length->cs[i]? =Ua (g.row id (.int .i64) (i:Int)))
 |.mrows h t m ver f=>g.ty id=.sl t/\g.ver id=ver/\RF w g.I ow t (g.blk id) (g.row id h) (fun k x=>(k,x)∈m) f/\(m.map Ve).Nodup/\(∀k,k ∉ m.map Ve->g.row id h k=.slice Ub 0 0)/\
   ∃b es clock,g.blk id=Ua b/\ow b/\w.heap[b]? =Ua (.map es clock)/\Ix es clock/\Fa (fun kv e=>Ko w g (.d h kv.1) e.key/\e.val=g.row id h kv.1) m es.toList
 |.rng h q rest cur=>∃b r es clock since seen,g.ty id=.ref/\g.blk id=Ua b/\ow b/\ow r/\w.heap[b]? =Ua (.mapIter (Ua r) since seen clock)/\w.heap[r]? =Ua (.map es clock)/\
   ((∀x∈es.toList,x.born<since)/\since<=clock/\(es.toList.map (·.born)).Nodup)/\Fa (fun kv e=>Ko w g (.d h kv.1) e.key/\Ko w g (.d q kv.2) e.val) rest (HL es seen)/\
   ∀kv,cur=Ua kv->∃e∈es.toList,∃j:Array Nat,seen=j.push e.born/\Ko w g (.d h kv.1) e.key/\Ko w g (.d q kv.2) e.val
 |.dat t xs=>g.ty id=t/\Rd w g.I (.sl t) xs [g.slv id]
 |.bld T e y=>∃b,g.blk id=Ua b/\Zcq w ow T e y b
 |.vco n xs=>g.ty id=.pn n/\Hc w g.I ow n xs (g.slv id)
 |.fnd s u lt n x=>(g.ty id=Jd s u lt n\/g.ty id=Yc s u lt n)/\ ∃b,g.blk id=Ua b/\Rn w g.I ow s u lt n x b
structure Z1 where
 w0:World
 own0:Nat->Prop
 I0:Nat->Prop
 pl:Bool
abbrev AH:=Nat->Option K1
structure YK (w' w:World):Prop where
 out:w'.output=w.output
 drawn:w.drawn<=w'.drawn
theorem YK.rfl{w:World} :YK w w:=⟨_root_.rfl,Vl _⟩
structure YL (d:Bool) (w' w:World):Prop where
 out:w'.output=w.output
 drawn:d=Uc->w.drawn<=w'.drawn
theorem YL.rfl{d:Bool}{w:World} :YL d w w:=⟨_root_.rfl,by omega⟩
theorem YK.trans{d:Bool}{a b c:World}(h:YK a b)(k:YL d b c):YL d a c:=⟨h.out.trans k.out,fun e=>Vv (k.drawn e) h.drawn⟩
theorem YL.trans{d:Bool}{a b c:World}(h:YL d a b)(k:YL d b c):YL d a c:=⟨h.out.trans k.out,fun e=>Vv (k.drawn e) (h.drawn e)⟩
theorem YL.weak{d e:Bool}{a b:World}(h:YL d a b)(k:e=Uc->d=Uc):YL e a b:=⟨h.out,fun x=>h.drawn (k x)⟩
structure RH (B:Z1) (H:AH) (w:World) (g:Gh) (ow:Nat->Nat->Prop):Prop where
 objs:∀id o,H id=Ua o->g.K id/\ORel w g (ow id) id o
 dist:∀id id' b,H id≠Ub->H id' ≠Ub->ow id b->ow id' b->id=id'
 sep:∀id b,H id≠Ub->ow id b->¬g.I b/\b<w.heap.size/\(B.own0 b\/B.w0.heap.size<=b)
 ilt:∀b,g.I b->b<w.heap.size
 inew:∀b,g.I b->B.I0 b\/B.own0 b\/B.w0.heap.size<=b
 os:w.os=B.w0.os
 tape:w.tape=B.w0.tape
 output:YL B.pl w B.w0
 size:B.w0.heap.size<=w.heap.size
 kept:∀b,b<B.w0.heap.size->¬B.own0 b->w.heap[b]? =B.w0.heap[b]?
structure Jh (w w' :World):Prop where
 heap:w'.heap=w.heap
 os:w'.os=w.os
 tape:w'.tape=w.tape
 output:YK w' w
theorem Jh.refl(w:World):Jh w w:=⟨rfl,rfl,rfl,.rfl⟩
theorem Jh.agree{w w' :World}(h:Jh w w')(I:Nat->Prop):Km I w w' :=fun b _=>by rw[h.heap]
theorem Wp.mono{w w' :World}{I i J j:Nat->Prop}{t:Ty}{xs:List (El t)}{d:Value}(z:Km I w w')(s:∀b,I b->i b)(u:∀b,Wi d=Ua b->J b->j b)(y:∀b,Wi d=Ua b->J b->w'.heap[b]? =w.heap[b]?)(h:Wp w I J t xs d):Wp w' i j t xs d:=by
 rcases h with h|⟨b,cap,cells,e,f,rfl,k,m,n,p,q,r⟩
 ·exact .inl h
 ·exact .inr ⟨b,cap,cells,e,f,rfl,u b rfl k,(y b rfl k).trans m,n,p,q.mono fun x c A=>Rd.mono z s t x c A,r⟩
theorem Zhq{w:World}{I:Nat->Prop}{lb:Ty} :∀{l:List (El (.pn lb))}{css:List (List Value)},Fa (Rd w I (.pn lb)) l css->∃b,css.flatten=b/\Fa (fun x v=>Rd w I (.pn lb) x [v]) l b
 |[],[],_=>⟨[],rfl,trivial⟩
 |x::l,c::css,⟨d,e⟩=>by obtain⟨b,f,h⟩:=Zhq e;have i:=Rd.length _ _ _ d;obtain⟨v,rfl⟩:=List.length_eq_one_iff.1 (show c.length=1 from i);exact⟨v::b,by simp [f],d,h⟩
theorem Hc.mono{w w' :World}{I d J f:Nat->Prop}{lb:Ty}{xs:List (El (.pn lb))}{c:Value}(y:Km I w w')(q:∀b,I b->d b)(r:∀b,Wi c=Ua b->J b->f b)(s:∀b,Wi c=Ua b->J b->w'.heap[b]? =w.heap[b]?)(h:Hc w I J lb xs c):Hc w' d f lb xs c:=by
 rcases h with h|⟨b,off,cap,cells,e,u,rfl,i,j,k,m,n,p⟩
 ·exact .inl h
 ·exact .inr ⟨b,off,cap,cells,e,u,rfl,r b rfl i,(s b rfl i).trans j,k,m,n.mono fun x v z=>Rd.mono y q (.pn lb) x [v] z,p⟩
theorem RF.mono{κ:Type}{w w' :World}{I d J e:Nat->Prop}{t:Ty}{top:Option Nat}{row:κ->Value}{c:κ->List (El t)->Prop}{hole:Option κ}(m:Km I w w')(j:∀b,I b->d b)(n:∀b,J b->e b)(p:∀b,J b->w'.heap[b]? =w.heap[b]?)
 (h:RF w I J t top row c hole):RF w' d e t top row c hole:=
 ⟨fun k x f i=>(h.rd k x f i).mono m j (by grind) (by grind),h.ds,h.tp⟩
theorem J9.mono{w' w:World}{I c J d:Nat->Prop}{t:Ty}{xs:List (List (El t))}{v:Value}(m:Km I w w')(f:∀b,I b->c b)(i:∀b,J b->d b)(j:∀b,J b->w'.heap[b]? =w.heap[b]?)(h:J9 w I J t xs v):J9 w' c d t xs v:=by
 obtain⟨k,e,n⟩:=h;refine⟨k,⟨e.1,e.2.mono m f i j⟩,?_⟩
 grind
theorem Rn.mono{w w' :World}{I y J z:Nat->Prop}{tn tq lt lb:Ty}{x:ZO tn tq lt lb}{b:Nat}(f:Km I w w')(d:∀b,I b->y b)(i:∀b,J b->z b)(j:∀b,J b->w'.heap[b]? =w.heap[b]?)(h:Rn w I J tn tq lt lb x b):Rn w' y z tn tq lt lb x b:=by
 obtain⟨A,K,C,D,G,N,r,s,u,cells,e,L,M,c3,U,V,W,O,Q,R,S,m,n,p,q⟩:=h
 exact⟨i _ A,K,C,D,G,N,fun k c=>⟨i _ (r k c).1,(r k c).2⟩,fun k c=>⟨i _ (s k c).1,(s k c).2⟩,fun k c=>⟨i _ (u k c).1,(u k c).2⟩,cells,e,L,M,c3,U,V,W,(j _ A).trans O,Q,
  Rd.mono f d _ _ _ R,Rd.mono f d _ _ _ S,Rd.mono f d _ _ _ m,n.mono f d (fun _ h=>h) fun k c=>j k (r k c).1,p.mono f d (fun _ _ h=>h) fun k _ c=>j k (s k c).1,q.mono f d (fun _ _ h=>h) fun k _ c=>j k (u k c).1⟩
theorem ORel.mono{w w' :World}{g g' :Gh}{ow:Nat->Prop}{id:Nat}{o:K1}(k:Km g.I w w')(d:g.Le g')(f:g.K id)(s:g'.ver id=g.ver id)(A:∀b,ow b->w'.heap[b]? =w.heap[b]?)(h:ORel w g ow id o):ORel w' g' ow id o:=by
 cases o with
 |var t c=>
  obtain⟨n,X,b,cs,e,i,p,j,q,y⟩:=h
  exact⟨(d.ty _ f).trans n,X,b,cs,e,(d.blk _ f).trans i,p,by grind,q,y.mono k d⟩
 |vec t xs=>
  obtain⟨n,h⟩:=h;refine⟨(d.ty _ f).trans n,?_⟩;rcases h with ⟨i,j,q⟩|⟨b,cap,cs,e,J,i,p,j,q,y,D,z,G⟩
  ·exact .inl ⟨i,(d.blk _ f).trans j,(d.slv _ f).trans q⟩
  ·exact .inr ⟨b,cap,cs,e,J,(d.blk _ f).trans i,p,(d.slv _ f).trans j,by grind,y,D,z.mono fun x c r=>Rd.mono k d.I t x c r,G⟩
 |map V vt m=>
  obtain⟨b,es,clock,i,p,j,R,q⟩:=h
  exact⟨b,es,clock,(d.blk _ f).trans i,p,by grind,R,q.mono fun x e r=>⟨r.1.mono k d,r.2.mono k d⟩⟩
 |rows t xs ver C=>
  obtain⟨n,i,j,h⟩:=h;refine⟨(d.ty _ f).trans n,s.trans i,?_,?_⟩
  ·rw[d.row _ f s,d.blk _ f];exact j.mono k d.I (by simp) A
  ·rw[d.row _ f s,d.blk _ f,d.slv _ f]
   grind
 |mrows V t m ver C=>
  obtain⟨n,i,j,q,y,b,es,clock,D,z,G,S,O⟩:=h;refine⟨(d.ty _ f).trans n,s.trans i,?_,q,?_,b,es,clock,(d.blk _ f).trans D,z,by grind,S,?_⟩
  ·rw[d.row _ f s,d.blk _ f];exact j.mono k d.I (by simp) A
  ·rw[d.row _ f s];omega
  ·rw[d.row _ f s];exact O.mono fun x e r=>⟨r.1.mono k d,r.2⟩
 |rng V vt rest cur=>
  obtain⟨b,Z,es,clock,since,seen,n,i,j,q,y,D,z,G,O⟩:=h;refine⟨b,Z,es,clock,since,seen,(d.ty _ f).trans n,(d.blk _ f).trans i,j,q,by grind,by grind,z,G.mono fun x e r=>⟨r.1.mono k d,r.2.mono k d⟩,fun kv U=>?_⟩;obtain⟨e,W,u,L,M,N⟩:=O kv U
  exact⟨e,W,u,L,M.mono k d,N.mono k d⟩
 |dat t xs=>
  exact⟨(d.ty _ f).trans h.1,by rw[d.slv _ f];exact Rd.mono k d.I _ _ _ h.2⟩
 |bld T e bs=>
  obtain⟨b,i,j⟩:=h
  exact⟨b,(d.blk _ f).trans i,j.mono (by simp) A⟩
 |vco Y xs=>
  exact⟨(d.ty _ f).trans h.1,by rw[d.slv _ f];exact h.2.mono k d.I (fun _ _ h=>h) fun b _ Q=>A b Q⟩
 |fnd tn tq lt Y x=>
  obtain⟨n,b,i,j⟩:=h;exact⟨n.imp (d.ty _ f).trans (d.ty _ f).trans,b,(d.blk _ f).trans i,j.mono k d.I (fun _ h=>h) A⟩
theorem RH.same{B:Z1}{H:AH}{w w' :World}{g:Gh}{ow:Nat->Nat->Prop}(h:RH B H w g ow)(c:Jh w w'):RH B H w' g ow where
 objs:=fun id o f=>⟨(h.objs id o f).1,(h.objs id o f).2.mono (c.agree _) (.refl g) (h.objs id o f).1 rfl fun b _=>by rw[c.heap]⟩
 dist:=h.dist
 sep:=fun id b d e=>by rw[c.heap];exact h.sep id b d e
 ilt:=fun b i=>by rw[c.heap];exact h.ilt b i
 inew:=h.inew
 os:=c.os.trans h.os
 tape:=c.tape.trans h.tape
 output:=c.output.trans h.output
 size:=by rw[c.heap];exact h.size
 kept:=fun b d e=>by rw[c.heap];exact h.kept b d e
def ZY(H:AH)(id:Nat)(o:Option K1):AH:=fun k=>bif Vc k id then o else H k
theorem XC{H:AH}{id:Nat}{o:Option K1} :ZY H id o id=o:=by simp [ZY]
theorem Kt{H:AH}{id k:Nat}{o:Option K1}(h:k≠id):ZY H id o k=H k:=by
 have:Vc k id=false:=by
  cases b:Vc k id
  all_goals simp_all
 simp [ZY,this]
theorem YF{H:AH}{id k:Nat}(h:ZY H id Ub k≠Ub):k≠id/\H k≠none:=by
 by_cases b:k=id
 ·subst b;exact absurd XC h
 ·exact⟨b,by rwa [Kt b]at h⟩
theorem RH.drop{B:Z1}{H:AH}{w:World}{g:Gh}{ow:Nat->Nat->Prop}(h:RH B H w g ow)(id:Nat):RH B (ZY H id Ub) w g ow where
 objs:=fun k o d=>by have:=(YF (H:=H) (id:=id) (k:=k) (by grind)).1;rw[Kt this]at d;exact h.objs k o d
 dist:=fun k f b c e=>h.dist k f b (YF c).2 (YF e).2
 sep:=fun k b c=>h.sep k b (YF c).2
 ilt:=h.ilt
 inew:=h.inew
 os:=h.os
 tape:=h.tape
 output:=h.output
 size:=h.size
 kept:=h.kept
def Gh.add(g:Gh)(id:Nat)(t:Ty)(b:Option Nat)(v:Value)(r:(c:Ty)->El c->Value:=fun _ _=>.slice Ub 0 0):Gh where
 I:=g.I
 K:=fun k=>k=id\/g.K k
 ty:=fun k=>if k=id then t else g.ty k
 blk:=fun k=>if k=id then b else g.blk k
 slv:=fun k=>if k=id then v else g.slv k
 ver:=fun k=>if k=id then 0 else g.ver k
 row:=fun k=>if k=id then r else g.row k
theorem Gh.le_add{g:Gh}{id:Nat}(h:¬g.K id)(t:Ty)(b:Option Nat)(v:Value)(r:(d:Ty)->El d->Value:=fun _ _=>.slice Ub 0 0):g.Le (g.add id t b v r) where
 I:=fun _ h=>h
 K:=fun _ h=>.inr h
 ty:=fun k c=>Zg (by grind)
 blk:=fun k c=>Zg (by grind)
 slv:=fun k c=>Zg (by grind)
 ver:=fun k c=>Nat.le_of_eq (Zg (by grind)).symm
 row:=fun k c _=>Zg (by grind)
def Xd(ow:Nat->Nat->Prop)(id:Nat)(J:Nat->Prop):Nat->Nat->Prop:=fun k b=>if k=id then J b else ow k b
theorem JZ{ow:Nat->Nat->Prop}{id:Nat}{J:Nat->Prop} :Xd ow id J id=J:=by funext b;simp [Xd]
theorem W4{ow:Nat->Nat->Prop}{id k:Nat}{J:Nat->Prop}(h:k≠id):Xd ow id J k=ow k:=by funext b;simp [Xd,h]
theorem RH.add{B:Z1}{H:AH}{w w' :World}{g:Gh}{ow:Nat->Nat->Prop}(h:RH B H w g ow){id:Nat}(G:¬g.K id){t:Ty}{b:Option Nat}{v:Value}{r:(N:Ty)->El N->Value}{o:K1}{J:Nat->Prop}
 (e:∀k,k<w.heap.size->w'.heap[k]? =w.heap[k]?) (M:w.heap.size<=w'.heap.size) (C:w'.os=w.os) (s:w'.tape=w.tape) (u:YK w' w)
 (A:∀k,J k->¬g.I k/\k<w'.heap.size/\(B.own0 k\/B.w0.heap.size<=k)/\ ∀x,H x≠Ub->¬ow x k)
 (L:ORel w' (g.add id t b v r) J id o):RH B (ZY H id (Ua o)) w' (g.add id t b v r) (Xd ow id J) where
 objs:=fun k O m=>by
  by_cases c:k=id
  ·subst c;rw[XC]at m;cases m;rw[JZ];exact⟨.inl rfl,L⟩
  ·rw[Kt c]at m;obtain⟨j,f⟩:=h.objs k O m;rw[W4 c];refine⟨.inr j,f.mono (fun b A=>e b (h.ilt b A)) (Gh.le_add G t b v r) j (Zg c) fun i n=>e i ?_⟩;exact(h.sep k i (by grind) n).2.1
 dist:=fun k D i j f y z=>by
  by_cases c:k=id<;>by_cases d:D=id
  ·omega
  ·subst c;rw[Kt d]at f;rw[JZ]at y;rw[W4 d]at z
   grind
  ·subst d;rw[Kt c]at j;rw[JZ]at z;rw[W4 c]at y
   grind
  ·rw[Kt c]at j;rw[Kt d]at f;rw[W4 c]at y;rw[W4 d]at z;exact h.dist k D i j f y z
 sep:=fun k i j f=>by
  by_cases c:k=id
  ·subst c;rw[JZ]at f;obtain⟨p,q,r,_⟩:=A _ f;exact⟨p,q,r⟩
  ·rw[Kt c]at j;rw[W4 c]at f;obtain⟨p,q,r⟩:=h.sep k i j f;exact⟨p,by omega,r⟩
 ilt:=fun i n=>by have:=h.ilt i n;omega
 inew:=h.inew
 os:=C.trans h.os
 tape:=s.trans h.tape
 output:=u.trans h.output
 size:=by have:=h.size;omega
 kept:=fun i j f=>(e i (by have:=h.size;omega)).trans (h.kept i j f)
theorem RH.write{B:Z1}{H:AH}{w w' :World}{g:Gh}{ow:Nat->Nat->Prop}(h:RH B H w g ow){id b:Nat}{z:K1}(s:H id≠Ub)(A:ow id b)
 (d:∀k,k≠b->w'.heap[k]? =w.heap[k]?) (q:w'.heap.size=w.heap.size) (y:w'.os=w.os) (r:w'.tape=w.tape) (u:YK w' w)
 (K:ORel w' g (ow id) id z):RH B (ZY H id (Ua z)) w' g ow:=by
 have D:=h.sep id b s A
 have c:∀k,ZY H id (Ua z) k≠Ub->H k≠none:=by
  intro k C;by_cases e:k=id
  ·grind
  ·rwa [Kt e]at C
 have x:Km g.I w w' :=fun k C=>by grind
 exact {
  objs:=fun k o i=>by
   by_cases p:k=id
   ·subst p;rw[XC]at i;cases i
    cases J:H k with
    |none=>grind
    |some o=>exact⟨(h.objs k o J).1,K⟩
   ·rw[Kt p]at i;obtain⟨j,m⟩:=h.objs k o i;refine⟨j,m.mono x (.refl g) j rfl fun f n=>d f fun e=>p ?_⟩;exact h.dist k id b (by grind) s (e▸n) A
  dist:=fun k G f j m=>h.dist k G f (c k j) (c G m)
  sep:=fun k f j m=>by rw[q];exact h.sep k f (c k j) m
  ilt:=fun f n=>by rw[q];exact h.ilt f n
  inew:=h.inew
  os:=y.trans h.os
  tape:=r.trans h.tape
  output:=u.trans h.output
  size:=by rw[q];exact h.size
  kept:=fun f j m=>by rw[d f (by grind)];exact h.kept f j m}
theorem RH.putDat{B:Z1}{H:AH}{w:World}{g:Gh}{ow:Nat->Nat->Prop}(h:RH B H w g ow){id:Nat}{t:Ty}{xs:List (El t)}(p:g.K id)(r:g.ty id=t)(q:Rd w g.I (.sl t) xs [g.slv id]):
 RH B (ZY H id (Ua (.dat t xs))) w g (Xd ow id fun _=>False) where
 objs:=fun k o i=>by
  by_cases c:k=id
  ·subst c;rw[XC]at i;cases i;exact⟨p,r,q⟩
  ·rw[Kt c]at i;rw[W4 c];exact h.objs k o i
 dist:=fun k n b f e j m=>by
  by_cases c:k=id
  ·subst c;rw[JZ]at j;grind
  ·by_cases d:n=id
   ·subst d;rw[JZ]at m;grind
   ·rw[Kt c]at f;rw[Kt d]at e;rw[W4 c]at j;rw[W4 d]at m;exact h.dist k n b f e j m
 sep:=fun k b f e=>by
  by_cases c:k=id
  ·subst c;rw[JZ]at e;grind
  ·rw[Kt c]at f;rw[W4 c]at e;exact h.sep k b f e
 ilt:=h.ilt
 inew:=h.inew
 os:=h.os
 tape:=h.tape
 output:=h.output
 size:=h.size
 kept:=h.kept
def Gh.grow(g:Gh)(J:Nat->Prop):Gh:= {g with I:=fun b=>g.I b\/J b}
theorem Gh.le_grow(g:Gh)(J:Nat->Prop):g.Le (g.grow J):=⟨fun _ h=>.inl h,fun _ h=>h,fun _ _=>rfl,fun _ _=>rfl,fun _ _=>rfl,fun _ _=>Vl _,fun _ _ _=>rfl⟩
theorem RH.grow{B:Z1}{H:AH}{w:World}{g:Gh}{ow:Nat->Nat->Prop}(h:RH B H w g ow){J:Nat->Prop}(j:∀b,J b->b<w.heap.size/\(B.I0 b\/B.own0 b\/B.w0.heap.size<=b)/\ ∀id,H id≠Ub->¬ow id b):RH B H w (g.grow J) ow where
 objs:=fun id o e=>⟨(h.objs id o e).1,(h.objs id o e).2.mono (fun _ _=>rfl) (g.le_grow J) (h.objs id o e).1 rfl (by simp)⟩
 dist:=h.dist
 sep:=fun id b f i=>⟨fun d=>by
  rcases d with d|d
  ·exact(h.sep id b f i).1 d
  grind,(h.sep id b f i).2⟩
 ilt:=fun b c=>by
  rcases c with c|c
  ·exact h.ilt b c
  grind
 inew:=fun b c=>by
  rcases c with c|c
  ·exact h.inew b c
  grind
 os:=h.os
 tape:=h.tape
 output:=h.output
 size:=h.size
 kept:=h.kept
theorem Zob{w:World}{g:Gh}{ow:Nat->Prop}{id:Nat}{t:Ty}{xs:List (El t)}(h:ORel w g ow id (.vec t xs)){I:Nat->Prop}(s:∀b,g.I b->I b)(u:∀b,ow b->I b):
 Rd w I (.sl t) xs [g.slv id]:=by
 obtain⟨C,A⟩:=h;rcases A with ⟨rfl,y,k⟩|⟨b,cap,cs,e,d,y,i,k,z,n,G,p,q⟩
 ·rw[k];exact⟨Ub,0,[],rfl,trivial,by simp,Vl _⟩
 ·rw[k];refine⟨Ua ⟨b,0,Ub⟩,cap,d,rfl,p.mono fun x c D=>Rd.mono (fun _ _=>rfl) s t x c D,fun _=>⟨b,0,rfl,u b i,?_⟩,n⟩;intro j J;obtain⟨r,K⟩:=q;have m:d.flatten.length<=cs.toList.length:=by grind
  simp only[Vx,z,Vr,Vf,if_false,Vea];have f:j<cs.size:=by grind
  rw[Vz f];congr 1;have:cs.toList[j]'(by omega)=d.flatten[j]:=by grind
  grind
theorem Wp.data{w:World}{I J K:Nat->Prop}{t:Ty}{xs:List (El t)}{k:Value}(h:Wp w I J t xs k)(s:∀b,I b->K b)(u:∀b,J b->K b):Rd w K (.sl t) xs [k]:=by
 rcases h with ⟨rfl,rfl⟩|⟨b,cap,cs,e,d,rfl,i,y,n,A,p,q⟩
 ·exact⟨Ub,0,[],rfl,trivial,by simp,Vl _⟩
 ·refine⟨Ua ⟨b,0,Ub⟩,cap,d,rfl,p.mono fun x c z=>Rd.mono (fun _ _=>rfl) s t x c z,fun _=>⟨b,0,rfl,u b i,?_⟩,n⟩;intro j C;obtain⟨r,D⟩:=q;have m:d.flatten.length<=cs.toList.length:=by grind
  simp only[Vx,y,Vr,Vf,if_false,Vea];have f:j<cs.size:=by grind
  rw[Vz f];congr 1;have:cs.toList[j]'(by omega)=d.flatten[j]:=by grind
  grind
theorem Znf{w:World}{g:Gh}{ow:Nat->Prop}{id:Nat}{t:Ty}{xs:List (List (El t))}{v:Nat}(h:ORel w g ow id (.rows t xs v Ub)){I:Nat->Prop}(q:∀b,g.I b->I b)(k:∀b,ow b->I b):
 Rd w I (.sl (.sl t)) xs [g.slv id]:=by
 obtain⟨_,_,d,A⟩:=h;rcases A with ⟨rfl,r,f⟩|⟨b,cap,cs,e,r,c,f,s,p,D,G⟩
 ·rw[f];exact⟨Ub,0,[],rfl,trivial,by simp,Vl _⟩
 ·rw[f];refine⟨Ua ⟨b,0,Ub⟩,cap,(Vp xs.length).map fun i:Nat=>[g.row id (.int .i64) (i:Int)],rfl,?_,fun _=>⟨b,0,rfl,k b c,?_⟩,p⟩
  ·have key:∀(n:Nat) (l:List (List (El t))),(∀i x,l[i]? =Ua x->Rd w I (.sl t) x [g.row id (.int .i64) ((n+i:Nat):Int)])->Fa (Rd w I (.sl t)) l ((List.range' n l.length).map fun i:Nat=>[g.row id (.int .i64) (i:Int)]):=by
    intro n l
    induction l generalizing n with
    |nil=>intro _;trivial
    |cons x l m=>
     intro h;refine⟨by simpa using h 0 x rfl,?_⟩
     have:=m (n+1) fun i y K=>by
      have:=h (i+1) y (by grind)
      grind
     omega
   have:=key 0 xs fun i x C=>by rw[Vea];exact(d.rd i x C (by simp)).data q k
   simpa [List.range_eq_range'] using this
  ·intro j J
   have u:((Vp xs.length).map fun i:Nat=>[g.row id (.int .i64) (i:Int)]).flatten=(Vp xs.length).map fun i:Nat=>g.row id (.int .i64) (i:Int):=by
    generalize xs.length=n
    induction n with
    |zero=>rfl
    |succ n m=>rw[List.range_succ];grind
   have z:j<xs.length:=by grind
   simp only[Vx,s,Vr,Vf,if_false,Vea]
   grind
end Tr
end
section
namespace Tr
open Go
inductive Zu (α:Type):Type 1 where
 |ret (a:α)
 |fail
 |getH (id:Nat) (k:Option K1->Zu α)
 |opt {β:Type} (o:Option β) (k:β->Zu α)
 |bool (b:Bool) (k:Bool->Zu α)
def Zu.bind{α β:Type} :Zu α->(α->Zu β)->Zu β
 |.ret a,f=>f a
 |.fail,_=>.fail
 |.getH id k,f=>.getH id fun o=>(k o).bind f
 |.opt o k,f=>.opt o fun b=>(k b).bind f
 |.bool b k,f=>.bool b fun c=>(k c).bind f
def Zu.runK{α ρ:Type}(H:AH):Zu α->List Nat->(α->List Nat->Option ρ)->Option ρ
 |.ret a,l,k=>k a l
 |.fail,_,_=>Ub
 |.getH id f,l,k=>(f (H id)).runK H (id::l) k
 |.opt o f,l,k=>o.bind fun b=>(f b).runK H l k
 |.bool b f,l,k=>bif b then(f Uc).runK H l k else(f Ud).runK H l k
def Zu.run{α:Type}(H:AH):Zu α->List Nat->Option (α×List Nat)
 |.ret a,l=>Ua (a,l)
 |.fail,_=>Ub
 |.getH id f,l=>(f (H id)).run H (id::l)
 |.opt o f,l=>o.bind fun b=>(f b).run H l
 |.bool b f,l=>(f b).run H l
theorem Zu.runK_eq{α ρ:Type}(H:AH)(k:α->List Nat->Option ρ)(a:Zu α)(l:List Nat):a.runK H l k=(a.run H l).bind fun r=>k r.1 r.2:=by
 induction a generalizing l with
 |ret a=>rfl
 |fail=>rfl
 |getH id f c=>exact c _ _
 |opt o f c=>
  cases o with
  |none=>rfl
  |some b=>exact c _ _
 |bool b f c=>cases b<;>exact c _ _
theorem Zu.run_bind{α β:Type}(H:AH)(f:α->Zu β)(a:Zu α)(l:List Nat):(a.bind f).run H l=(a.run H l).bind fun r=>(f r.1).run H r.2:=by
 induction a generalizing l with
 |ret a=>rfl
 |fail=>rfl
 |getH id k c=>exact c _ _
 |opt o k c=>
  cases o with
  |none=>rfl
  |some b=>exact c _ _
 |bool b k c=>exact c _ _
theorem Zu.run_local{α:Type}{H H' :AH}(a:Zu α)(l:List Nat)(r:α)(l' :List Nat)(h:a.run H l=Ua (r,l')):
 ∃m,l' =m++l/\((∀id∈m,H' id=H id)->a.run H' l=Ua (r,l')):=by
 induction a generalizing l with
 |ret a=>
  simp only[Zu.run,ZB,Vd]at h
  exact⟨[],by simp [h.2],fun _=>by simp [Zu.run,h.1,h.2]⟩
 |fail=>simp [Zu.run]at h
 |getH id k c=>
  simp only[Zu.run]at h;obtain⟨m,e,f⟩:=c _ _ h;refine⟨m++[id],by simp [e],fun d=>?_⟩;simp only[Zu.run];rw[d id (by simp)]
  exact f fun i j=>d i (by simp [j])
 |opt o k c=>
  cases o with
  |none=>simp [Zu.run]at h
  |some b=>
   simp only[Zu.run,Za]at h⊢
   exact c _ _ h
 |bool b k c=>
  simp only[Zu.run]at h⊢;exact c _ _ h
def Kr(t b:Ty)(x:El t):Option (El b):=if h:t=b then Ua (h▸x) else Ub
def Zs(i:Int)(n:Nat):Option Nat:=if 0<=i/\i<n then Ua i.toNat else Ub
def idx{α:Type}(xs:List α)(i:Int):Option α:=if 0<=i then xs[i.toNat]? else Ub
def Zz(b:Bool):Option Unit:=bif b then Ua () else Ub
abbrev DV:=(t:Ty) ×El t
def Yv:(t:Ty)->El t->List Nat->Zu DV
 |t,x,[]=>.ret ⟨t,x⟩
 |.prod a b,x,i::p=>match i with
  |0=>Yv a x.1 p
  |n+1=>Yv b x.2 (n::p)
 |.arr _ t,x,i::p=>.opt x[i]? fun y=>Yv t y p
 |_,_,_::_=>.fail
def Xk:(t:Ty)->El t->List Nat->DV->Zu (El t)
 |t,_,[],y=>.opt (Kr y.1 t y.2) .ret
 |.prod a b,x,i::p,y=>match i with
  |0=>(Xk a x.1 p y).bind fun z=>.ret (z,x.2)
  |n+1=>(Xk b x.2 (n::p) y).bind fun z=>.ret (x.1,z)
 |.arr _ t,x,i::p,y=>.opt x[i]? fun e=>(Xk t e p y).bind fun z=>.ret (x.set i z)
 |_,_,_::_,_=>.fail
def Yr:(t:Ty)->El t->Zo
 |.prod a b,x=>.cons (.d a x.1) (Yr b x.2)
 |_,_=>.nil
mutual
def Ge:AV->List Nat->Zu AV
 |v,[]=>.ret v
 |.d t x,p=>(Yv t x p).bind fun y=>.ret (.d y.1 y.2)
 |.agg l,n::p=>ZbL l n p
 |_,_::_=>.fail
def ZbL:Zo->Nat->List Nat->Zu AV
 |.cons v _,0,p=>Ge v p
 |.cons _ l,n+1,p=>ZbL l n p
 |.nil,_,_=>.fail
end
def AV.dv? :AV->Option DV
 |.d t x=>Ua ⟨t,x⟩
 |_=>Ub
def Hq:Ty->Zo->Nat->List Nat->AV->Zu Zo
 |.prod a _,.cons u l,0,p,v=>(match p,u with
  |[],_=>bif v.fits a then .ret (.cons v l) else .fail
  |p,.d t x=>(match v with
   |.d c y=>(Xk t x p ⟨c,y⟩).bind fun z=>.ret (.cons (.d t z) l)
   |_=>.fail)
  |_,_=>.fail)
 |.prod _ b,.cons u l,n+1,p,v=>(Hq b l n p v).bind fun m=>.ret (.cons u m)
 |_,_,_,_,_=>.fail
def D9(t:Ty)(c:AV)(p:List Nat)(v:AV):Zu AV:=
 match p with
 |[]=>bif v.fits t then .ret v else .fail
 |n::q=>match c with
  |.agg l=>(Hq t l n q v).bind fun m=>.ret (.agg m)
  |.d b x=>(match v with
   |.d e y=>(Xk b x (n::q) ⟨e,y⟩).bind fun z=>.ret (.d b z)
   |v=>bif (Yr b x).fits t then(Hq t (Yr b x) n q v).bind fun l=>.ret (.agg l) else .fail)
  |_=>.fail
end Tr
end
section
namespace Tr
open Go
noncomputable section
def Ty.dep:Ty->Nat
 |.prod a b=>max (a.dep+1) b.dep
 |.arr _ t=>t.dep+1
 |.sl t=>t.dep+1
 |_=>1
def eqEl:(t:Ty)->El t->El t->Option Bool
 |.int _,x,y=>Ua (Ue (x=y))
 |.bool,x,y=>Ua (x==y)
 |.str,x,y=>Ua (Ue (x=y))
 |.unit,_,_=>Ua Uc
 |.prod a .unit,x,y=>eqEl a x.1 y.1
 |.prod a b,x,y=>(eqEl a x.1 y.1).bind fun p=>(eqEl b x.2 y.2).bind fun q=>Ua (p&&q)
 |.arr _ t,x,y=>(eqs (eqEl t) x y)
 |_,_,_=>Ub
where eqs {α:Type} (f:α->α->Option Bool):List α->List α->Option Bool
 |[],[]=>Ua Uc
 |a::l,b::m=>(f a b).bind fun p=>(eqs f l m).bind fun q=>Ua (p&&q)
 |_,_=>Ub
def ZT{α β:Type}(eq:α->α->Bool)(k:α):List (α×β)->Option β
 |[]=>Ub
 |e::l=>bif eq k e.1 then Ua e.2 else ZT eq k l
def DM{α β:Type}(eq:α->α->Bool)(k:α):List (α×β)->Nat
 |[]=>0
 |e::l=>bif eq k e.1 then 0 else DM eq k l+1
def Kn{α β:Type}(eq:α->α->Bool)(k:α)(v:β):List (α×β)->List (α×β)
 |[]=>[(k,v)]
 |e::l=>bif eq k e.1 then(k,v)::l else e::Kn eq k v l
def Zm(t:Ty)(x y:El t):Bool:=(eqEl t x y).getD Ud
def Ty.key:Ty->Bool
 |.int _=>Uc
 |.bool=>Uc
 |.str=>Uc
 |.unit=>Uc
 |.prod a b=>a.key&&b.key
 |.arr _ t=>t.key
 |_=>Ud
def Ty.keyOk(t:Ty):Bool:=t.key&&Vw t.dep 100
mutual
inductive Pat where
 |pd (t:Ty)
 |own (t:Ty) (keep:Bool)
 |var (t:Ty) (p:Pat)
 |ro (t:Ty)
 |map (b c:Ty)
 |rows (t:Ty) (keep:Bool)
 |mrows (b t:Ty)
 |it (b c:Ty)
 |bld (T e:TypeId) (keep:Bool)
 |fnd (tn tq lt lb:Ty)
 |owo (lb:Ty)
 |agg (l:Pats)
 |fn (f:FuncId) (l:Pats)
 |nilr
 |nils
 |any
inductive Pats where
 |nil
 |cons (p:Pat) (l:Pats)
end
mutual
@[reducible] def K2:Pat->Type
  |.pd t=>El t
  |.own t _=>List (El t)
  |.var _ p=>K2 p
  |.ro t=>El t
  |.map b c=>List (El b×El c)
  |.rows t _=>List (List (El t))
  |.mrows b t=>List (El b×List (El t))
  |.it b c=>List (El b×El c)
  |.bld _ _ _=>List UInt8
  |.fnd tn tq lt lb=>ZO tn tq lt lb
  |.owo lb=>List (El (.pn lb))
  |.agg l=>Ks l
  |.fn _ l=>Ks l
  |.nilr=>Unit
  |.nils=>Unit
  |.any=>Unit
@[reducible] def Ks:Pats->Type
  |.nil=>Unit
  |.cons p l=>K2 p×Ks l
end
mutual
@[reducible] def H3:Pat->Type
  |.own t true=>List (El t)
  |.var _ p=>K2 p
  |.map b c=>List (El b×El c)
  |.rows t true=>List (List (El t))
  |.mrows b t=>List (El b×List (El t))
  |.bld _ _ true=>List UInt8
  |.fnd tn tq lt lb=>ZO tn tq lt lb
  |.agg l=>We l
  |.fn _ l=>We l
  |_=>Unit
@[reducible] def We:Pats->Type
  |.nil=>Unit
  |.cons p l=>H3 p×We l
end
def Yn(id ver:Nat)(c:Ty)(k:El c):Zu ((t:Ty) ×List (El t)):=
 .getH id fun
  |some (.rows t xs v Ub)=>bif Vc v ver then .opt (Kr c (.int .i64) k) fun i=>.opt (idx xs i) fun x=>.ret ⟨t,x⟩ else .fail
  |some (.mrows b t m v Ub)=>bif Vc v ver&&b.keyOk then .opt (Kr c b k) fun d=>.ret ⟨t,(ZT (Zm b) d m).getD []⟩ else .fail
  |_=>.fail
abbrev ZaQ(a b:Ty):Ty:=.prod a (.prod (.lk a b) b)
mutual
def Kk:(t:Ty)->AV->Zu (El t×List Nat)
 |t,.d c x=>.opt (Kr c t x) fun y=>.ret (y,[])
 |.sl _,.nils=>.ret ([],[])
 |.sl t,.vw id=>.getH id fun
  |some (.vec c xs)=>.opt (Kr (.sl c) (.sl t) xs) fun y=>.ret (y,[id])
  |some (.rows c xs _ Ub)=>.opt (Kr (.sl (.sl c)) (.sl t) xs) fun y=>.ret (y,[id])
  |some (.dat c xs)=>.opt (Kr (.sl c) (.sl t) xs) fun y=>.ret (y,[])
  |_=>.fail
 |.sl t,.nw id ver e k=>(Yn id ver e k).bind fun r=>.opt (Kr (.sl r.1) (.sl t) r.2) fun y=>.ret (y,[id])
 |.sl t,.vs id lo n=>.getH id fun
  |some (.vec c xs)=>.opt (Kr (.sl c) (.sl t) xs) fun y=>.ret ((y.drop lo).take n,[id])
  |_=>.fail
 |t,.agg l=>X7 t l
 |.pt _,.nilr p=>bif p then .ret (Ub,[]) else .fail
 |.pt t,.ptr id p=>bif p.isEmpty then .getH id fun
  |some (.var _ (.d c x))=>.opt (Kr c t x) fun y=>.ret (Ua y,[id])
  |_=>.fail else .fail
 |.lk _ _,.nilr p=>bif p then .ret ([],[]) else .fail
 |.lk a b,.dp c x=>.opt (Kr c (ZaQ a b) x) fun y=>.ret ((y.1,y.2.2)::y.2.1,[])
 |.lk a b,.ptr id p=>bif p.isEmpty then .getH id fun
  |some (.var _ (.d c x))=>.opt (Kr c (ZaQ a b) x) fun y=>.ret ((y.1,y.2.2)::y.2.1,[id])
  |_=>.fail else .fail
 |.pn _,.nilr p=>bif p then .ret (Ub,[]) else .fail
 |_,_=>.fail
def X7:(t:Ty)->Zo->Zu (El t×List Nat)
 |.unit,.nil=>.ret ((),[])
 |.prod a b,.cons v l=>(Kk a v).bind fun x=>(X7 b l).bind fun y=>.ret ((x.1,y.1),x.2++y.2)
 |_,_=>.fail
end
def Zeh(l:List Int):List UInt8:=l.map fun n=>UInt8.ofNat n.toNat
def GE(t:Ty)(x:AV):Zu (List (El t) ×List Nat):=
 match x with
 |.vw id=>.getH id fun
  |some (.rows _ _ _ _)=>.fail
  |_=>Kk (.sl t) (.vw id)
 |x=>Kk (.sl t) x
def Jq(t:Ty)(v:AV):Zu (List (El t) ×List Nat):=
 match v with
 |.vw id=>.getH id fun
  |some (.vec b xs)=>.opt (Kr (.sl b) (.sl t) xs) fun y=>.ret (y,[id])
  |_=>.fail
 |.vs id 0 n=>.getH id fun
  |some (.vec b xs)=>.opt (Kr (.sl b) (.sl t) xs) fun y=>.ret (y.take n,[id])
  |_=>.fail
 |.nils=>.ret ([],[])
 |_=>.fail
def Dl(lb:Ty)(v:AV):Zu (List (El (.pn lb)) ×List Nat):=
 match v with
 |.vw id=>.getH id fun
  |some (.vec c xs)=>.opt (Kr (.sl c) (.sl (.pn lb)) xs) fun y=>.ret (y,[id])
  |some (.vco b xs)=>.opt (Kr (.sl (.pn b)) (.sl (.pn lb)) xs) fun y=>.ret (y,[id])
  |_=>.fail
 |.nils=>.ret ([],[])
 |_=>.fail
def YC(t:Ty)(v:AV):Zu (List (List (El t)) ×List Nat):=
 match v with
 |.vw id=>.getH id fun
  |some (.rows b xs _ Ub)=>.opt (Kr (.sl (.sl b)) (.sl (.sl t)) xs) fun y=>.ret (y,[id])
  |_=>.fail
 |.nils=>.ret ([],[])
 |_=>.fail
def Zk7(tn tq lt lb:Ty):Ty:=.prod tn (.prod tq (.prod lt (.prod (.sl (.sl lb)) (.prod (.sl lb) (.sl lb)))))
@[reducible] def ZdU (tn tq lt lb:Ty):Type:=El tn×El tq×El lt×List (List (El (.pn lb))) ×List (El (.pn lb)) ×List (El (.pn lb))
def WF{tn tq lt lb:Ty}(b:El lb->Nat)(x:ZO tn tq lt lb):ZdU tn tq lt lb:=(x.1,x.2.1,x.2.2.1,x.2.2.2.1.map (fun r=>r.map (Kq b)),x.2.2.2.2.1.map (Kq b),x.2.2.2.2.2.map (Kq b))
open Classical in
noncomputable def untag{tn tq lt lb:Ty}(y:ZdU tn tq lt lb):Option (ZO tn tq lt lb):=if h:∃(x:ZO tn tq lt lb) (ad:El lb->Nat),X2 ad x/\y=WF ad x then Ua (Classical.choose h) else Ub
theorem Zwt{tn tq lt lb:Ty}{y:ZdU tn tq lt lb}{x:ZO tn tq lt lb}(h:untag y=Ua x):∃b:El lb->Nat,X2 b x/\y=WF b x:=by
 unfold untag at h;split at h
 ·rename_i c;have:=Classical.choose_spec c;rw[Ky h]at this;exact this
 ·cases h
theorem ZiI{lb:Ty}{d c:El lb->Nat}{l l' :List (El lb)}(h:l.map (Kq d)=l'.map (Kq c)):l=l' :=by
 have:(l.map (Kq d)).map (fun z:El (.pn lb)=>(z:Option (Nat×El lb)).map Vra)=(l'.map (Kq c)).map (fun z:El (.pn lb)=>(z:Option (Nat×El lb)).map Vra):=by rw[h]
 simp only[List.map_map]at this;have e:∀(a:El lb->Nat) (k:List (El lb)),k.map ((fun z:El (.pn lb)=>(z:Option (Nat×El lb)).map Vra) ∘Kq a)=k.map some:=fun a k=>List.map_congr_left fun y _=>rfl;rw[e,e]at this
 have key:∀(a b:List (El lb)),a.map Ua=b.map Ua->a=b:=by
  intro a
  induction a with
  |nil=>intro b h;cases b with
   |nil=>rfl
   |cons _ _=>simp at h
  |cons u a f=>intro b h;cases b with
   |nil=>simp at h
   |cons v b=>
    simp only[Vq,Xe,ZB]at h;rw[h.1,f b h.2]
 exact key _ _ this
theorem Zwg{tn tq lt lb:Ty}{f c:El lb->Nat}{x d:ZO tn tq lt lb}(h:WF f x=WF c d):x=d:=by
 obtain⟨q,s,u,n,y,z⟩:=x;obtain⟨A,C,D,p,G,I⟩:=d;simp only[WF,Vd]at h;obtain⟨rfl,rfl,rfl,i,j,k⟩:=h;obtain rfl:=ZiI j;obtain rfl:=ZiI k
 have:n=p:=by
  have e:∀(l l' :List (List (El lb))),(l.map fun r=>r.map (Kq f))=(l'.map fun r=>r.map (Kq c))->l=l' :=by
   intro l
   induction l with
   |nil=>intro l' h;cases l' with
    |nil=>rfl
    |cons a l' =>simp at h
   |cons a l m=>intro l' h;cases l' with
    |nil=>simp at h
    |cons b l' =>
     simp only[Vq,Xe]at h;rw[ZiI h.1,m l' h.2]
  exact e _ _ i
 rw[this]
theorem untag_eq{tn tq lt lb:Ty}{c:El lb->Nat}{x:ZO tn tq lt lb}(h:X2 c x):untag (WF c x)=Ua x:=by have d:∃(e:ZO tn tq lt lb) (b:El lb->Nat),X2 b e/\WF c x=WF b e:=⟨x,c,h,rfl⟩;unfold untag;rw[dif_pos d];obtain⟨b,_,f⟩:=Classical.choose_spec d;rw[<-Zwg f]
structure ZF where
 tk:List Nat
 br:List Nat
def ZF.none:ZF:=⟨[],[]⟩
def ZF.app(a b:ZF):ZF:=⟨a.tk++b.tk,a.br++b.br⟩
mutual
def Pat.fits:Pat->Ty->Bool
 |.pd c,t=>c==t
 |.own c _,.sl t=>c==t
 |.rows c _,.sl (.sl t)=>c==t
 |.mrows _ _,.ref=>Uc
 |.it _ _,.ref=>Uc
 |.bld _ _ _,.ref=>Uc
 |.fnd _ _ _ _,.ref=>Uc
 |.owo lb,.sl t=>t== .pn lb
 |.var _ _,.ref=>Uc
 |.ro _,.ref=>Uc
 |.map _ _,.ref=>Uc
 |.fn _ _,.ref=>Uc
 |.nilr,.ref=>Uc
 |.nils,.sl _=>Uc
 |.agg l,t=>l.fits t
 |_,_=>Ud
def Pats.fits:Pats->Ty->Bool
 |.nil,.unit=>Uc
 |.cons p l,.prod a b=>p.fits a&&l.fits b
 |_,_=>Ud
end
mutual
def ext:(p:Pat)->AV->Zu (K2 p×ZF)
 |.pd t,v=>(Kk t v).bind fun r=>.ret (r.1,⟨[],r.2⟩)
 |.own t _,v=>(Jq t v).bind fun r=>.ret (r.1,⟨r.2,[]⟩)
 |.var t p,v=>(match v with
  |.ptr id []=>.getH id fun
   |some (.var b c)=>bif b==t&&p.fits t then(ext p c).bind fun r=>.ret (r.1,⟨id::r.2.tk,r.2.br⟩) else .fail
   |_=>.fail
  |_=>.fail)
 |.ro t,v=>(match v with
  |.ptr id []=>.getH id fun
   |some (.var _ (.d b x))=>.opt (Kr b t x) fun y=>.ret (y,⟨[],[id]⟩)
   |_=>.fail
  |.dp b x=>.opt (Kr b t x) fun y=>.ret (y,ZF.none)
  |_=>.fail)
 |.map i u,v=>(match v with
  |.mp id=>.getH id fun
   |some (.map k e m)=>.opt (Kr (.sl (.prod k e)) (.sl (.prod i u)) m) fun y=>.ret (y,⟨[id],[]⟩)
   |_=>.fail
  |_=>.fail)
 |.rows t _,v=>(YC t v).bind fun r=>.ret (r.1,⟨r.2,[]⟩)
 |.mrows i t,v=>(match v with
  |.mp id=>.getH id fun
   |some (.mrows k b m _ Ub)=>.opt (Kr (.sl (.prod k (.sl b))) (.sl (.prod i (.sl t))) m) fun y=>.ret (y,⟨[id],[]⟩)
   |_=>.fail
  |_=>.fail)
 |.it i u,v=>(match v with
  |.ptr id []=>.getH id fun
   |some (.rng k e m _)=>.opt (Kr (.sl (.prod k e)) (.sl (.prod i u)) m) fun y=>.ret (y,⟨[id],[]⟩)
   |_=>.fail
  |_=>.fail)
 |.bld T e _,v=>(match v with
  |.ptr id []=>.getH id fun
   |some (.bld J L K)=>bif Vc J T&&Vc L e then .ret (K,⟨[id],[]⟩) else .fail
   |_=>.fail
  |_=>.fail)
 |.fnd tn tq lt lb,v=>(match v with
  |.ptr id []=>.getH id fun
   |some (.fnd q s n j x)=>.opt (Kr (Zk7 q s n j) (Zk7 tn tq lt lb) x) fun y=>.ret (y,⟨[id],[]⟩)
   |some (.var t (.agg (.cons N (.cons O (.cons Q (.cons R (.cons S (.cons U .nil))))))))=>bif t==Jd tn tq lt lb then
     (Kk tn N).bind fun z=>(Kk tq O).bind fun A=>(Kk lt Q).bind fun C=>(YC (.pn lb) R).bind fun D=>(Dl lb S).bind fun G=>(Jq (.pn lb) U).bind fun I=>
       .opt (untag (tn:=tn) (tq:=tq) (lt:=lt) (lb:=lb) (z.1,A.1,C.1,D.1,G.1,I.1)) fun y=>.ret (y,⟨id::(D.2++(G.2++I.2)),z.2++(A.2++C.2)⟩) else .fail
   |_=>.fail
  |_=>.fail)
 |.owo lb,v=>(Dl lb v).bind fun r=>.ret (r.1,⟨r.2,[]⟩)
 |.agg l,v=>(match v with
  |.agg vs=>WE l vs
  |.d t x=>bif (Yr t x).fits t then WE l (Yr t x) else .fail
  |_=>.fail)
 |.fn f l,v=>(match v with
  |.fn M h=>bif Vc M f then WE l h else .fail
  |_=>.fail)
 |.nilr,v=>(match v with
  |.nilr _=>.ret ((),ZF.none)
  |_=>.fail)
 |.nils,v=>(match v with
  |.nils=>.ret ((),ZF.none)
  |_=>.fail)
 |.any,_=>.ret ((),ZF.none)
def WE:(l:Pats)->Zo->Zu (Ks l×ZF)
 |.nil,.nil=>.ret ((),ZF.none)
 |.cons p l,.cons v vs=>(ext p v).bind fun x=>(WE l vs).bind fun y=>.ret ((x.1,y.1),x.2.app y.2)
 |_,_=>.fail
end
mutual
def inj:(p:Pat)->K2 p->Nat->AV×List (Nat×K1) ×Nat
 |.pd t,x,n=>(.d t x,[],n)
 |.own t _,x,n=>(.vw n,[(n,.vec t x)],n+1)
 |.var t p,x,n=>let r:=inj p x (n+1);(.ptr n [],(n,.var t r.1)::r.2.1,r.2.2)
 |.ro t,x,n=>(.dp t x,[],n)
 |.map b c,x,n=>(.mp n,[(n,.map b c x)],n+1)
 |.rows t _,x,n=>(.vw n,[(n,.rows t x 0 Ub)],n+1)
 |.mrows b t,x,n=>(.mp n,[(n,.mrows b t x 0 Ub)],n+1)
 |.it b c,x,n=>(.ptr n [],[(n,.rng b c x Ub)],n+1)
 |.bld T e _,x,n=>(.ptr n [],[(n,.bld T e x)],n+1)
 |.fnd tn tq lt lb,x,n=>(.ptr n [],[(n,.fnd tn tq lt lb x)],n+1)
 |.owo lb,x,n=>(.vw n,[(n,.vco lb x)],n+1)
 |.agg l,x,n=>let r:=Kc l x n;(.agg r.1,r.2)
 |.fn f l,x,n=>let r:=Kc l x n;(.fn f r.1,r.2)
 |.nilr,_,n=>(.nilr Ud,[],n)
 |.nils,_,n=>(.nils,[],n)
 |.any,_,n=>(.junk,[],n)
def Kc:(l:Pats)->Ks l->Nat->Zo×List (Nat×K1) ×Nat
 |.nil,_,n=>(.nil,[],n)
 |.cons p l,x,n=>let r:=inj p x.1 n;let s:=Kc l x.2 r.2.2;(.cons r.1 s.1,r.2.1++s.2.1,s.2.2)
end
mutual
def Ki:(p:Pat)->AV->H3 p->Nat->List (Nat×Option K1) ×Nat
 |.own t Uc,.vw id,x,n=>([(id,Ua (.vec t x))],n)
 |.var t p,.ptr id [],x,n=>let r:=inj p x n;((id,Ua (.var t r.1))::r.2.1.map fun o=>(o.1,Ua o.2),r.2.2)
 |.map b c,.mp id,x,n=>([(id,Ua (.map b c x))],n)
 |.rows t Uc,.vw id,x,n=>([(id,Ua (.rows t x n Ub))],n)
 |.mrows b t,.mp id,x,n=>([(id,Ua (.mrows b t x n Ub))],n)
 |.bld T e Uc,.ptr id [],x,n=>([(id,Ua (.bld T e x))],n)
 |.fnd tn tq lt lb,.ptr id [],x,n=>([(id,Ua (.fnd tn tq lt lb x))],n)
 |.agg l,.agg vs,x,n=>JQ l vs x n
 |.fn _ l,.fn _ vs,x,n=>JQ l vs x n
 |_,_,_,n=>([],n)
def JQ:(l:Pats)->Zo->We l->Nat->List (Nat×Option K1) ×Nat
 |.nil,_,_,n=>([],n)
 |.cons p l,.cons v vs,x,n=>let r:=Ki p v x.1 n;let s:=JQ l vs x.2 r.2;(r.1++s.1,s.2)
 |.cons _ _,.nil,_,n=>([],n)
end
structure Spec where
 args:Pats
 res:Pats
 fns:List FuncId
 α:Type
 f:Ks args->Option α
 unp:α->We args×Ks res
 pl:Bool:=Uc
 kp:List (Nat×Nat×Nat):=[]
abbrev Kx:=List (Nat×Option K1)
structure Ka where
 ty:TypeId->Option Ty
 mty:TypeId->Option (Ty×Ty)
 rw:TypeId->Bool:=fun _=>Ud
 zx:TypeId->Bool:=fun _=>Ud
 bd:TypeId->Option TypeId:=fun _=>Ub
 pk:TypeId->Nat:=fun _=>0
 specs:FuncId->List Spec
 nt:Nat
 ks:List Nat
 pz:TypeId->Bool:=fun _=>Ud
 st:Nat:=0
 inl:FuncId->Option (Nat->Zo->Zu (AV×Kx)):=fun _=>Ub
def Ka.stp(E:Ka):Nat:=E.st+64
def KO(n:Nat):List Nat->Bool
 |[]=>Ud
 |k::l=>Vc n k||KO n l
def Gm:List Nat->Bool
 |[]=>Uc
 |n::l=> !KO n l&&Gm l
def J1:List Nat->List Nat->Bool
 |[],_=>Uc
 |n::l,m=> !KO n m&&J1 l m
def ZF.ok(i:ZF)(fz:List Nat):Bool:=Gm i.tk&&J1 i.br i.tk&&J1 i.tk fz
def Ty.flat:Ty->Bool
 |.sl _=>Ud
 |.ref=>Ud
 |.pt _=>Ud
 |.lk _ _=>Ud
 |.pn _=>Ud
 |.prod a b=>a.flat&&b.flat
 |.arr _ t=>t.flat
 |_=>Uc
mutual
def Pat.flat:Pat->Bool
 |.pd t=>t.flat
 |.own t _=>t.flat
 |.var _ p=>p.flat
 |.ro _=>Ud
 |.map b c=>b.flat&&c.flat
 |.rows t _=>t.flat
 |.mrows b t=>b.flat&&t.flat
 |.it b c=>b.flat&&c.flat
 |.bld _ _ _=>Uc
 |.fnd _ _ _ _=>Ud
 |.owo _=>Ud
 |.agg l=>l.flat
 |.fn _ l=>l.flat
 |.nilr=>Uc
 |.nils=>Uc
 |.any=>Uc
def Pats.flat:Pats->Bool
 |.nil=>Uc
 |.cons p l=>p.flat&&l.flat
end
mutual
def Pat.oflat:Pat->Bool
 |.own t k=> !k||t.flat
 |.var _ p=>p.flat
 |.map b c=>b.flat&&c.flat
 |.rows t k=> !k||t.flat
 |.mrows b t=>b.flat&&t.flat
 |.fnd _ _ _ _=>Ud
 |.agg l=>l.oflat
 |.fn _ l=>l.oflat
 |_=>Uc
def Pats.oflat:Pats->Bool
 |.nil=>Uc
 |.cons p l=>p.oflat&&l.oflat
end
mutual
def Pat.sz:Pat->Nat
 |.pd t=>t.size
 |.agg l=>l.sz
 |_=>1
def Pats.sz:Pats->Nat
 |.nil=>0
 |.cons p l=>p.sz+l.sz
end
mutual
def Pat.noAny:Pat->Bool
 |.any=>Ud
 |.var _ p=>p.noAny
 |.agg l=>l.noAny
 |.fn _ l=>l.noAny
 |_=>Uc
def Pats.noAny:Pats->Bool
 |.nil=>Uc
 |.cons p l=>p.noAny&&l.noAny
end
def Pats.wf:Pats->Bool
 |.nil=>Uc
 |.cons .any l=>l.wf
 |.cons p l=>p.noAny&&l.wf
def Zo.ofList:List AV->Zo
 |[]=>.nil
 |v::l=>.cons v (Zo.ofList l)
def Zo.app:Zo->Zo->Zo
 |.nil,m=>m
 |.cons v l,m=>.cons v (l.app m)
def Zo.nth:Zo->Nat->Option AV
 |.nil,_=>Ub
 |.cons v _,0=>Ua v
 |.cons _ l,n+1=>l.nth n
def Zc1:Zo->List FuncId
 |.nil=>[]
 |.cons (.fn f _) l=>f::Zc1 l
 |.cons _ l=>Zc1 l
def ZnV:Zo->AV
 |.cons v .nil=>v
 |l=>.tup l
def Wr:Nat:=64
def Zch(n:Nat):List Nat->Zu Unit
 |[]=>.ret ()
 |id::l=>.getH id fun
  |some (.rows _ _ v _)=>bif Vg v n then Zch n l else .fail
  |some (.mrows _ _ _ v _)=>bif Vg v n then Zch n l else .fail
  |_=>Zch n l
def DR:List Nat->Zu Kx
 |[]=>.ret []
 |id::l=>.getH id fun
  |some (.vec t xs)=>(DR l).bind fun p=>.ret ((id,Ua (.dat t xs))::p)
  |some (.rows t xs _ Ub)=>(DR l).bind fun p=>.ret ((id,Ua (.dat (.sl t) xs))::p)
  |_=>DR l
def ZgI(S:Spec)(nid:Nat)(b:Zo):Zu (AV×Kx):=
 (WE S.args b).bind fun r=>
   .opt (Zz (r.2.ok [])) fun _=>(Zch nid r.2.tk).bind fun _=>(bif S.res.flat&&S.args.oflat then .ret [] else DR r.2.br).bind fun ds=>
    .opt (S.f r.1) fun z=>
     let y:=S.unp z
     let p:=JQ S.args b y.1 nid
     let q:=Kc S.res y.2 p.2
     .opt (Zz (Vw q.2.2 (nid+Wr))) fun _=>.ret (ZnV q.1,(r.2.tk.map fun id=>(id,Ub))++(bif S.res.flat&&S.args.oflat then [] else r.2.br.map fun id=>(id,Ub))++p.1++(q.2.1.map fun o=>(o.1,Ua o.2))++ds)
def Dh(id:Nat):Kx->Option (Option K1)
 |[]=>Ub
 |p::l=>match Dh id l with
  |some o=>Ua o
  |none=>bif Vc p.1 id then Ua p.2 else Ub
def Zo.putNth:Zo->Nat->AV->Zo
 |.nil,_,_=>.nil
 |.cons _ l,0,v=>.cons v l
 |.cons u l,n+1,v=>.cons u (l.putNth n v)
def RW:Ty->Nat->Nat
 |.prod a b,n+1=>a.size+RW b n
 |_,_=>0
def ZhO(e:Zo)(k:Nat×Nat×Nat)(p:Kx):Zu Kx:=
 match e.nth k.1 with
 |some (.ptr b [])=>.getH b fun
  |some (.var T (.agg c))=>(match c.nth k.2.1 with
   |some (.vw d)=>.getH d fun
    |some (.vec t _)=>(match Dh b p with
     |some (Ua (.var f (.agg h)))=>(match h.nth k.2.1 with
      |some (.vw nid)=>(match Dh nid p with
       |some (Ua (.vec i xs))=>bif i==t&&f==T&&Vc (RW T k.2.1) k.2.2&& !Vc nid b&& !Vc d b then .ret (p++[(nid,Ub),(b,Ub),(d,Ua (.vec i xs)),(b,Ua (.var f (.agg (h.putNth k.2.1 (.vw d)))))]) else .fail
       |_=>.fail)
      |_=>.fail)
     |_=>.fail)
    |_=>.fail
   |_=>.fail)
  |_=>.fail
 |_=>.fail
def Zdc(b:Zo):List (Nat×Nat×Nat)->Kx->Zu Kx
 |[],p=>.ret p
 |k::l,p=>(ZhO b k p).bind fun q=>Zdc b l q
def Zei(S:Spec)(nid:Nat)(b:Zo):Zu (AV×Kx):=
 (ZgI S nid b).bind fun r=>(Zdc b S.kp r.2).bind fun p=>.ret (r.1,p)
def Zbq(nid:Nat)(c:Zo):List Spec->Zu (AV×Kx)
 |[]=>.fail
 |[S]=>Zei S nid c
 |S::l=>(WE S.args c).bind fun r=>.bool (S.f r.1).isSome fun b=>bif b then Zei S nid c else Zbq nid c l
def RN(fns:List FuncId):List Spec->List Spec
 |[]=>[]
 |S::l=>bif S.fns==fns then S::RN fns l else RN fns l
def Zee:Value->AV
 |.bool b=>.d .bool b
 |.int k n=>.d (.int k) n
 |.string s=>.d .str s.data.toList
 |.pointer none=>.nilr Uc
 |.nilFunc=>.nilr Ud
 |.map none=>.nilr Ud
 |.slice Ub 0 0=>.nils
 |_=>.junk
def Zx(F:Nat->AV):Operand->AV
 |.tmp t=>F t
 |.const v=>Zee v
 |.global _=>.junk
 |.func f=>bif Vg f WL then .fn f .nil else .junk
def Zig(k:IntKind)(x y:Int):Option Int:=if y=0 then Ub else Ua (k.wrap (x.tdiv y))
def Zih(x y:Int):Option Int:=if y=0 then Ub else Ua (x.tmod y)
def Gp(k:IntKind)(x y:Int):Option Int:=if y<0 then Ub else Ua (k.wrap (x*2 ^ (min y.toNat k.bits)))
def HR(k:IntKind)(x y:Int):Option Int:=if y<0 then Ub else Ua (x.fdiv (2 ^ (min y.toNat k.bits)))
def ZG(k:IntKind)(x y:Int):Int:=k.wrap (Vm k.bits x &&& Vm k.bits y).toNat
def K5(k:IntKind)(x y:Int):Int:=k.wrap (Vm k.bits x ||| Vm k.bits y).toNat
def ZuP(k:IntKind)(x y:Int):Int:=k.wrap (Vm k.bits x ^^^ Vm k.bits y).toNat
def qandNot(k:IntKind)(x y:Int):Int:=k.wrap (Vm k.bits x &&& ~~~ Vm k.bits y).toNat
def imin(x y:Int):Int:=if y<x then y else x
def imax(x y:Int):Int:=if x<y then y else x
def Zaf(op:BinOp)(k:IntKind)(x y:Int):Zu AV:=
 match op with
 |.add=>.ret (.d (.int k) (k.wrap (x+y)))
 |.sub=>.ret (.d (.int k) (k.wrap (x - y)))
 |.mul=>.ret (.d (.int k) (k.wrap (x*y)))
 |.quo=>.opt (Zig k x y) fun z=>.ret (.d (.int k) z)
 |.rem=>.opt (Zih x y) fun z=>.ret (.d (.int k) z)
 |.and=>.ret (.d (.int k) (ZG k x y))
 |.or=>.ret (.d (.int k) (K5 k x y))
 |.xor=>.ret (.d (.int k) (ZuP k x y))
 |.andNot=>.ret (.d (.int k) (qandNot k x y))
 |.shl=>.opt (Gp k x y) fun z=>.ret (.d (.int k) z)
 |.shr=>.opt (HR k x y) fun z=>.ret (.d (.int k) z)
 |.eql=>.ret (.d .bool (Ue (x=y)))
 |.neq=>.ret (.d .bool (!Ue (x=y)))
 |.lss=>.ret (.d .bool (Ue (x<y)))
 |.leq=>.ret (.d .bool (Ue (x<=y)))
 |.gtr=>.ret (.d .bool (Ue (y<x)))
 |.geq=>.ret (.d .bool (Ue (y<=x)))
def catStr(x y:List UInt8):Option (List UInt8):=bif Ue (x.length+y.length<2 ^ 62) then Ua (x++y) else Ub
def Zgz(op:BinOp)(x y:List UInt8):Zu AV:=
 match op with
 |.add=>.opt (catStr x y) fun z=>.ret (.d .str z)
 |.eql=>.ret (.d .bool (Ue (x=y)))
 |.neq=>.ret (.d .bool (!Ue (x=y)))
 |.lss=>.ret (.d .bool (Op.bytesLess x y))
 |.gtr=>.ret (.d .bool (!(Op.bytesLess x y||decide (x=y))))
 |.leq=>.ret (.d .bool (Op.bytesLess x y||decide (x=y)))
 |.geq=>.ret (.d .bool (!Op.bytesLess x y))
 |_=>.fail
def Zls:AV->Bool
 |.dp _ _=>Uc
 |.ptr _ _=>Uc
 |.vp _ _ _=>Uc
 |.np _ _ _ _ _ _=>Uc
 |.mp _=>Uc
 |.fn _ _=>Uc
 |_=>Ud
def Zgo(θ:TypeId->Option Ty)(T:TypeId)(op:BinOp)(x y:AV):Zu AV:=
 match x,y with
 |.d (.int k) a,.d (.int e) b=>(match op with
  |.shl=>Zaf .shl k a b
  |.shr=>Zaf .shr k a b
  |op=>bif k==e then Zaf op k a b else .fail)
 |.d .str a,.d .str b=>Zgz op a b
 |.d t a,.d c b=>(match op with
  |.eql=>bif θ T==Ua t&&Vw t.dep 100 then .opt (Kr c t b) fun b=>.opt (eqEl t a b) fun r=>.ret (.d .bool r) else .fail
  |.neq=>bif θ T==Ua t&&Vw t.dep 100 then .opt (Kr c t b) fun b=>.opt (eqEl t a b) fun r=>.ret (.d .bool (!r)) else .fail
  |_=>.fail)
 |_,_=>.fail
def Zfd(k:Nat)(v:AV)(y:Operand):Bool:=match y with
 |.const (.pointer Ub)=>Vc k 1&& (match v with|.ptr _ _=>Uc|_=>Ud)
 |.const .nilFunc=>Vc k 2&& (match v with|.fn _ _=>Uc|_=>Ud)
 |.const (.map Ub)=>Vc k 3&& (match v with|.mp _=>Uc|_=>Ud)
 |_=>Ud
def aun(op:UnOp)(x:AV):Zu AV:=
 match op,x with
 |.not,.d .bool b=>.ret (.d .bool (!b))
 |.neg,.d (.int k) n=>.ret (.d (.int k) (k.wrap (0 - n)))
 |_,_=>.fail
def zeroEl:(t:Ty)->El t
 |.int _=>(0:Int)
 |.bool=>Ud
 |.str=>([]:List UInt8)
 |.sl t=>([]:List (El t))
 |.unit=>()
 |.prod a b=>(zeroEl a,zeroEl b)
 |.arr n t=>Vt n (zeroEl t)
 |.ref=>()
 |.pt t=>(none:Option (El t))
 |.lk a b=>([]:List (El a×El b))
 |.pn t=>(none:Option (Nat×El t))
def Ty.data:Ty->Bool
 |.ref=>Ud
 |.pt t=>t.data
 |.lk a b=>a.data&&b.data
 |.pn t=>t.data
 |.sl t=>t.data
 |.prod a b=>a.data&&b.data
 |.arr _ t=>t.data
 |_=>Uc
def Zf2:Ty->AV
 |.ref=>.nilr Ud
 |.sl _=>.nils
 |a=>.jk a.size
def Ty.isSl:Ty->Bool
 |.sl _=>Uc
 |_=>Ud
def Ht(z:Bool)(a:Ty):AV:=bif a.data&& (z|| !a.isSl) then .d a (zeroEl a) else Zf2 a
def G0(z:Bool):Ty->Zo
 |.prod a b=>.cons (Ht z a) (G0 z b)
 |_=>.nil
def XV(t:Ty):AV:=
 bif t.data&& !t.isSl then .d t (zeroEl t) else match t with
  |.ref=>.nilr Ud
  |.sl _=>.nils
  |.prod a b=>.agg (G0 Ud (.prod a b))
  |t=>.jk t.size
def ZdL(x:Bool)(t:Ty):AV:=bif x then(match t with
 |.prod a b=>.agg (G0 Ud (.prod a b))
 |t=>XV t) else XV t
def RD(z:Bool)(parts:List (Nat×AV)):Ty->Nat->Zo
 |.prod a b,n=>.cons ((parts.lookup n).getD (Ht z a)) (RD z parts b (n+1))
 |_,_=>.nil
def GP:Zo->Option DV
 |.nil=>Ua ⟨.unit,()⟩
 |.cons (.d t x) l=>match GP l with
  |some ⟨u,y⟩=>Ua ⟨.prod t u,(x,y)⟩
  |none=>Ub
 |_=>Ub
def Zdh(l:Zo):AV:=match GP l with
 |some ⟨t,x⟩=>.d t x
 |none=>.agg l
def Zai(t:Ty)(parts:List (Nat×AV)):Nat->Nat->Option (List (El t))
 |0,_=>Ua []
 |m+1,n=>match (parts.lookup n).getD (.d t (zeroEl t)) with
  |.d b x=>(Kr b t x).bind fun y=>(Zai t parts m (n+1)).bind fun l=>Ua (y::l)
  |_=>Ub
def Zc4(e:Ty):List (Nat×AV)->Zu (List (Nat×AV) ×List Nat)
 |[]=>.ret ([],[])
 |p::l=>(Kk e p.2).bind fun x=>(Zc4 e l).bind fun r=>.ret ((p.1,.d e x.1)::r.1,x.2++r.2)
def fieldsOf:Ty->Nat
 |.prod _ b=>fieldsOf b+1
 |_=>0
def Ty.isStruct:Ty->Bool
 |.prod _ _=>Uc
 |.unit=>Uc
 |_=>Ud
def ZD:Nat:=2 ^ 39
def Zjg(t:Ty)(nid:Nat)(s x:AV):Zu (AV×Kx):=
 (Jq t s).bind fun r=>(GE t x).bind fun y=>
   .opt (Zz (Ue (r.1.length+y.1.length<=ZD))) fun _=>
    .ret (.vw nid,(r.2.map fun id=>(id,Ub))++[(nid,Ua (.vec t (r.1++y.1)))])
def ZjK(t:Ty)(nid:Nat)(n:Int):Zu (AV×Kx):=
 .opt (Zz (Ue (1<=n/\n<=(ZD:Int)))) fun _=>.ret (.vw nid,[(nid,Ua (.vec t (Vt n.toNat (zeroEl t))))])
def Zjj(t:Ty)(d s:AV):Zu (AV×Kx):=
 match d with
 |.vw id=>.getH id fun
  |some (.vec c xs)=>.opt (Kr (.sl c) (.sl t) xs) fun xs=>(GE t s).bind fun y=>
    .ret (.d (.int .i64) ((min y.1.length xs.length:Nat):Int),[(id,Ua (.vec t (y.1.take (min y.1.length xs.length)++xs.drop (min y.1.length xs.length))))])
  |_=>.fail
 |.vs id b n=>.getH id fun
  |some (.vec c xs)=>.opt (Kr (.sl c) (.sl t) xs) fun xs=>.opt (Zz (Vw (b+n) xs.length)) fun _=>(GE t s).bind fun y=>
    .ret (.d (.int .i64) ((min y.1.length n:Nat):Int),[(id,Ua (.vec t (xs.take b++y.1.take (min y.1.length n)++xs.drop (b+min y.1.length n))))])
  |_=>.fail
 |_=>.fail
def Zd4(id nid:Nat)(c:Ty)(k:El c):Zu K1:=
 .getH id fun
  |some (.rows t xs v Ub)=>bif Vg v nid then .opt (Kr c (.int .i64) k) fun i=>.ret (.rows t xs nid (Ua i.toNat)) else .fail
  |some (.mrows b t m v Ub)=>bif Vg v nid then .opt (Kr c b k) fun d=>.ret (.mrows b t m nid (Ua d)) else .fail
  |_=>.fail
def Zgp(id:Nat)(d:Ty)(k:El d)(t:Ty)(row:List (El t)):Zu K1:=
 .getH id fun
  |some (.rows c xs v Ub)=>.opt (Kr d (.int .i64) k) fun i=>.opt (Kr (.sl t) (.sl c) row) fun y=>.ret (.rows c (xs.set i.toNat y) v Ub)
  |some (.mrows b c m v Ub)=>.opt (Kr d b k) fun e=>.opt (Kr (.sl t) (.sl c) row) fun y=>.ret (.mrows b c (Kn (Zm b) e y m) v Ub)
  |_=>.fail
def Zjh(t:Ty)(nid id ver:Nat)(b:Ty)(k:El b)(x:AV):Zu (AV×Kx):=
 (Yn id ver b k).bind fun r=>.opt (Kr (.sl r.1) (.sl t) r.2) fun xs=>(GE t x).bind fun y=>
   .opt (Zz (Ue (xs.length+y.1.length<=ZD))) fun _=>.opt (Zz (!KO id y.2)) fun _=>(Zd4 id nid b k).bind fun o=>
    .ret (.vw nid,[(id,Ua o),(nid,Ua (.vec t (xs++y.1)))])
def Zji(t:Ty)(nid:Nat)(s x:AV):Zu (AV×Kx):=
 (YC t s).bind fun r=>(YC t x).bind fun y=>
   .opt (Zz (Ue (r.1.length+y.1.length<=ZD))) fun _=>.opt (Zz (Gm (r.2++y.2))) fun _=>
    .ret (.vw nid,((r.2++y.2).map fun id=>(id,Ub))++[(nid,Ua (.rows t (r.1++y.1) 0 Ub))])
def ZcI(t:Ty)(parts:List (Nat×AV)):Nat->Nat->Zu (List (List (El t)) ×List Nat)
 |0,_=>.ret ([],[])
 |m+1,n=>(Jq t ((parts.lookup n).getD .nils)).bind fun x=>(ZcI t parts m (n+1)).bind fun y=>.ret (x.1::y.1,x.2++y.2)
def RR(h:Option Nat)(i:Nat):Bool:=match h with
 |none=>Uc
 |some j=>Vc j i
def holeK(b:Ty)(h:Option (El b))(k:El b):Bool:=match h with
 |none=>Uc
 |some j=>Zm b j k
def Jm:Option Ty->Bool
 |some (.sl _)=>Uc
 |_=>Ud
def Zjt(t:Option Ty)(mp:Bool)(v:AV):Zu AV:=
 match v with
 |.d (.sl _) xs=>bif Jm t then .ret (.d (.int .i64) (xs.length:Int)) else .fail
 |.d .str xs=>bif t==Ua .str then .ret (.d (.int .i64) (xs.length:Int)) else .fail
 |.nils=>bif Jm t then .ret (.d (.int .i64) (0:Int)) else .fail
 |.vs _ _ n=>bif Jm t then .ret (.d (.int .i64) (n:Int)) else .fail
 |.vw id=>bif Jm t then .getH id fun
  |some (.vec _ xs)=>.ret (.d (.int .i64) (xs.length:Int))
  |some (.rows _ xs _ _)=>.ret (.d (.int .i64) (xs.length:Int))
  |some (.dat _ xs)=>.ret (.d (.int .i64) (xs.length:Int))
  |some (.vco _ xs)=>.ret (.d (.int .i64) (xs.length:Int))
  |_=>.fail else .fail
 |.nw id ver b k=>bif Jm t then(Yn id ver b k).bind fun r=>.ret (.d (.int .i64) (r.2.length:Int)) else .fail
 |.mp id=>bif mp then .getH id fun
  |some (.map _ _ m)=>.ret (.d (.int .i64) (m.length:Int))
  |_=>.fail else .fail
 |_=>.fail
def GT(n:Nat):List Nat->Bool
 |[]=>Uc
 |i::l=>Vw (i+1) n&& !(l.contains i) &&GT n l
def Zbh(f:Int->Int->Int)(k:IntKind):Int->List AV->Zu AV
 |a,[]=>.ret (.d (.int k) a)
 |a,.d (.int c) b::l=>bif c==k then Zbh f k (f a b) l else .fail
 |_,_=>.fail
def AV.solid:AV->Bool
 |.jk _=>Ud
 |_=>Uc
def KR(v:AV):Option Int:=match v with
 |.d (.int _) n=>Ua n
 |_=>Ub
def sliceB(len cap:Nat)(lo b:Option Int):Option (Nat×Nat):=
 let h:Option Nat:=match b with|some x=>if 0<=x/\x<=cap then Ua x.toNat else Ub|none=>Ua len
 h.bind fun h=>match lo with
  |some x=>if 0<=x/\x<=h then Ua (x.toNat,h) else Ub
  |none=>Ua (0,h)
def XL(b:Operand->AV):Option Operand->Bool
 |some x=>(KR (b x)).isSome
 |none=>Uc
def Hf:AV->Option Nat
 |.d t _=>Ua t.size
 |.dp _ _=>Ua 1
 |.ptr _ _=>Ua 1
 |.vp _ _ _=>Ua 1
 |.mp _=>Ua 1
 |.fn _ _=>Ua 1
 |.nilr _=>Ua 1
 |.nils=>Ua 1
 |.vw _=>Ua 1
 |.vs _ _ _=>Ua 1
 |.nw _ _ _ _=>Ua 1
 |.np _ _ _ _ _ _=>Ua 1
 |_=>Ub
def Zbt(v:AV):Bool:= !v.isAgg&& (match Hf v with
 |some n=>Vc n 1
 |none=>Ud)
def DP:Zo->Bool
 |.nil=>Uc
 |.cons v l=>Zbt v&&DP l
def Zdk:List AV->Bool
 |[]=>Uc
 |.tup _::_=>Ud
 |_::l=>Zdk l
def ZN(E:Ka)(nid:Nat)(op:Op)(_rt:TypeId)(A:Operand->AV):Zu (AV×Kx):=
 match op with
 |.move x=>.ret (A x,[])
 |.assign x=>.ret (A x,[])
 |.pick c a b=>(match A c with
  |.d .bool t=>.bool t fun t=>.ret (bif t then A a else A b,[])
  |_=>.fail)
 |.alloc T=>(match E.bd T with
  |some e=>.ret (.ptr nid [],[(nid,Ua (.bld T e []))])
  |none=>.opt (E.ty T) fun t=>.ret (.ptr nid [],[(nid,Ua (.var t (ZdL (E.zx T) t)))]))
 |.box T x=>.opt (E.ty T) fun t=>bif (A x).fits t then .ret (.ptr nid [],[(nid,Ua (.var t (A x)))]) else .fail
 |.build T N=>.opt (E.ty T) fun t=>(match t with
  |.prod a b=>bif !GT (fieldsOf (.prod a b)) (N.toList.map (·.1)) then .fail else let l:=RD (Ty.data (.prod a b) && !E.zx T) (N.toList.map fun p=>(p.1,A p.2)) (.prod a b) 0;bif l.fits (.prod a b) then(bif E.rw T then(Kk (.prod a b) (Zdh l)).bind fun r=>.ret (.d (.prod a b) r.1,r.2.map fun id=>(id,Ub)) else .ret (Zdh l,[])) else .fail
  |.arr n e=>bif !GT n (N.toList.map (·.1)) || !e.data then .fail else .opt (Zai e (N.toList.map fun p=>(p.1,A p.2)) n 0) fun l=>.ret (.d (.arr n e) l,[])
  |_=>.fail)
 |.buildSlice T n N=>.opt (E.ty T) fun t=>(match t with
  |.sl e=>bif E.rw T then(match e with
    |.sl O=>bif !GT n (N.toList.map (·.1)) ||Vg (2 ^ 24) n then .fail else(ZcI O (N.toList.map fun p=>(p.1,A p.2)) n 0).bind fun r=>.opt (Zz (Gm r.2)) fun _=>.ret (.vw nid,(r.2.map fun id=>(id,Ub))++[(nid,Ua (.rows O r.1 0 Ub))])
    |_=>.fail) else bif !GT n (N.toList.map (·.1)) || !e.data||Vg (2 ^ 24) (n*e.size) then .fail else(Zc4 e (N.toList.map fun p=>(p.1,A p.2))).bind fun r=>.opt (Zai e r.1 n 0) fun l=>(DR r.2).bind fun ds=>.ret (.vw nid,(r.2.map fun id=>(id,Ub))++[(nid,Ua (.vec e l))]++ds)
  |_=>.fail)
 |.load T a=>.opt (E.ty T) fun t=>(match A a with
  |.dp Q x=>bif Q==t then .ret (.d Q x,[]) else .fail
  |.ptr id p=>.getH id fun
   |some (.var _ c)=>(Ge c p).bind fun v=>bif v.fits t&&v.solid then .ret (v,[]) else .fail
   |some (.fnd U V lt _ x)=>(Ge (Zc2 U V lt x) p).bind fun v=>bif v.fits t&&v.solid then .ret (v,[]) else .fail
   |_=>.fail
  |.vp id i p=>.getH id fun
   |some (.vec _ xs)=>.opt xs[i]? fun x=>(Yv _ x p).bind fun v=>bif v.1==t then .ret (.d v.1 v.2,[]) else .fail
   |some (.rows I xs v Ub)=>bif p.isEmpty&&t== .sl I then .opt xs[i]? fun _=>.ret (.nw id v (.int .i64) (i:Int),[]) else .fail
   |_=>.fail
  |.np id ver D k i p=>(Yn id ver D k).bind fun r=>.opt r.2[i]? fun x=>(Yv _ x p).bind fun v=>bif v.1==t then .ret (.d v.1 v.2,[]) else .fail
  |_=>.fail)
 |.store T a x=>.opt (E.ty T) fun t=>bif (A x).fits t then(match A a with
  |.ptr id p=>.getH id fun
   |some (.var I c)=>(D9 I c p (A x)).bind fun Y=>.ret (.junk,[(id,Ua (.var I Y))])
   |_=>.fail
  |.vp id i p=>.getH id fun
   |some (.vec I xs)=>.opt xs[i]? fun e=>.opt (A x).dv? fun y=>(Xk I e p y).bind fun O=>.ret (.junk,[(id,Ua (.vec I (xs.set i O)))])
   |some (.rows I xs v h)=>bif p.isEmpty&&t== .sl I&&Vg v nid then .opt (Zz (RR h i)) fun _=>.opt xs[i]? fun _=>(Jq I (A x)).bind fun r=>.ret (.junk,(r.2.map fun id=>(id,Ub))++[(id,Ua (.rows I (xs.set i r.1) nid Ub))]) else .fail
   |_=>.fail
  |.np id ver D k i p=>(Yn id ver D k).bind fun r=>.opt r.2[i]? fun e=>.opt (A x).dv? fun y=>(Xk r.1 e p y).bind fun O=>(Zgp id D k r.1 (r.2.set i O)).bind fun o=>.ret (.junk,[(id,Ua o)])
  |_=>.fail) else .fail
 |.nilCheck x=>bif Zls (A x) then .ret (A x,[]) else .fail
 |.binOp op T x y _=>bif Zfd (E.pk T) (A x) y then(match op with
   |.eql=>.ret (.d .bool Ud,[])
   |.neq=>.ret (.d .bool Uc,[])
   |_=>.fail) else(Zgo E.ty T op (A x) (A y)).bind fun v=>.ret (v,[])
 |.unOp op _ x=>(aun op (A x)).bind fun v=>.ret (v,[])
 |.convert S T x=>.opt (E.ty S) fun s=>.opt (E.ty T) fun t=>(match t,A x with
  |.int k,.d (.int _) n=>.ret (.d (.int k) (k.wrap n),[])
  |.str,.d .str s=>.ret (.d .str s,[])
  |.str,v=>bif s== .sl (.int .u8) then(GE (.int .u8) v).bind fun r=>.ret (.d .str (Zeh r.1),[]) else .fail
  |_,_=>.fail)
 |.makeFunc (.func f) first G=>bif first.isEmpty&&Vg f WL&&DP (Zo.ofList (G.toList.map A)) then .ret (.fn f (Zo.ofList (G.toList.map A)),[]) else .fail
 |.makeMap T r=>.opt (E.mty T) fun m=>bif E.rw T then(match m with
   |(D,.sl t)=>bif D.keyOk&& (match r with|none=>Uc|some x=>(KR (A x)).isSome) then .ret (.mp nid,[(nid,Ua (.mrows D t [] 0 Ub))]) else .fail
   |_=>.fail) else bif m.1.keyOk&& (match r with|none=>Uc|some x=>(KR (A x)).isSome) then .ret (.mp nid,[(nid,Ua (.map m.1 m.2 []))]) else .fail
 |.makeSlice T l c=>.opt (E.ty T) fun t=>(match t,A l,A c with
  |.sl e,.d (.int _) n,.d (.int _) m=>bif E.rw T then(match e with
    |.sl O=>.opt (Zz (Ue (0<=n/\n<=m/\m<=ZD))) fun _=>.ret (.vw nid,[(nid,Ua (.rows O (Vt n.toNat []) 0 Ub))])
    |_=>.fail) else bif !e.data then .fail else .opt (Zz (Ue (0<=n/\n<=m/\m<=ZD))) fun _=>.ret (.vw nid,[(nid,Ua (.vec e (Vt n.toNat (zeroEl e))))])
  |_,_,_=>.fail)
 |.slice T x J M none=>bif !(XL A J&&XL A M) then .fail else(match A x with
  |.d (.sl t) xs=>bif !(E.ty T==Ua (.sl t)) then .fail else .opt (sliceB xs.length xs.length (J.bind fun o=>KR (A o)) (M.bind fun o=>KR (A o))) fun r=>.ret (.d (.sl t) ((xs.drop r.1).take (r.2 - r.1)),[])
  |.d .str xs=>bif !(E.ty T==Ua .str) then .fail else .opt (sliceB xs.length xs.length (J.bind fun o=>KR (A o)) (M.bind fun o=>KR (A o))) fun r=>.ret (.d .str ((xs.drop r.1).take (r.2 - r.1)),[])
  |.nils=>(match E.ty T with
   |some (.sl _)=>.opt (sliceB 0 0 (J.bind fun o=>KR (A o)) (M.bind fun o=>KR (A o))) fun _=>.ret (.nils,[])
   |_=>.fail)
  |.vw id=>.getH id fun
   |some (.vec t xs)=>bif !(E.ty T==Ua (.sl t)) then .fail else .opt (sliceB xs.length xs.length (J.bind fun o=>KR (A o)) (M.bind fun o=>KR (A o))) fun r=>(match J with|none=>.ret (.vs id 0 r.2,[]) |some _=>.ret (.vs id r.1 (r.2 - r.1),[]))
   |some (.dat t xs)=>bif !(E.ty T==Ua (.sl t)) then .fail else .opt (sliceB xs.length xs.length (J.bind fun o=>KR (A o)) (M.bind fun o=>KR (A o))) fun r=>.ret (.d (.sl t) ((xs.drop r.1).take (r.2 - r.1)),[])
   |_=>.fail
  |_=>.fail)
 |.slice T x J (Ua M) (Ua mx)=>bif !(XL A J&&XL A (Ua M)) then .fail else(match A x with
  |.vw id=>.getH id fun
   |some (.vec t xs)=>bif !(E.ty T==Ua (.sl t)) then .fail else .opt (KR (A mx)) fun m=>.opt (Zs m (xs.length+1)) fun m=>.opt (sliceB xs.length m (J.bind fun o=>KR (A o)) (KR (A M))) fun r=>(match J with|none=>.ret (.vs id 0 r.2,[]) |some _=>.ret (.vs id r.1 (r.2 - r.1),[]))
   |_=>.fail
  |_=>.fail)
 |.fieldAddr T x f=>.opt (E.ty T) fun t=>.opt (ZW t [f]) fun r=>bif Vc r.2.size 0|| !t.isStruct then .fail else(match A x with
  |.dp Q y=>bif Q==t then(Yv Q y [f]).bind fun v=>.ret (.dp v.1 v.2,[]) else .fail
  |.ptr id p=>.getH id fun
   |some (.var I _)=>.opt (Hs I p) fun q=>bif q==t then .ret (.ptr id (p++[f]),[]) else .fail
   |some (.fnd U V lt X _)=>bif (match p with
     |[]=>Jd U V lt X==t||Yc U V lt X==t
     |i::_=>Vg i 3&&Hs (Jd U V lt X) p==Ua t) then .ret (.ptr id (p++[f]),[]) else .fail
   |_=>.fail
  |.vp id i p=>.getH id fun
   |some (.vec I _)=>.opt (ZW I p) fun q=>bif q.2==t then .ret (.vp id i (p++[f]),[]) else .fail
   |_=>.fail
  |.np id ver D k i p=>(Yn id ver D k).bind fun s=>.opt (ZW s.1 p) fun q=>bif q.2==t then .ret (.np id ver D k i (p++[f]),[]) else .fail
  |_=>.fail)
 |.field T x f=>.opt (E.ty T) fun t=>.opt (ZW t [f]) fun r=>bif !t.isStruct|| !(A x).fits t|| !(A x).solid then .fail else(Ge (A x) [f]).bind fun v=>bif v.fits r.2&&v.solid then .ret (v,[]) else .fail
 |.indexAddr T x i=>.opt (E.ty T) fun L=>(match A x,A i with
  |.d (.sl t) xs,.d (.int _) n=>bif L== .sl t then .opt (idx xs n) fun y=>.ret (.dp t y,[]) else .fail
  |.vw id,.d (.int _) n=>.getH id fun
   |some (.vec t xs)=>bif L== .sl t then .opt (Zs n xs.length) fun j=>.ret (.vp id j [],[]) else .fail
   |some (.rows t xs _ _)=>bif L== .sl (.sl t) then .opt (Zs n xs.length) fun j=>.ret (.vp id j [],[]) else .fail
   |some (.dat t xs)=>bif L== .sl t then .opt (idx xs n) fun y=>.ret (.dp t y,[]) else .fail
   |_=>.fail
  |.nw id ver D k,.d (.int _) n=>(Yn id ver D k).bind fun r=>bif L== .sl r.1 then .opt (Zs n r.2.length) fun j=>.ret (.np id ver D k j [],[]) else .fail
  |.vs id J m,.d (.int _) n=>.getH id fun
   |some (.vec t xs)=>bif L== .sl t then .opt (Zz (Ue (J+m<=xs.length))) fun _=>.opt (Zs n m) fun j=>.ret (.vp id (J+j) [],[]) else .fail
   |_=>.fail
  |.dp (.arr m t) xs,.d (.int _) n=>bif L== .arr m t then .opt (idx xs n) fun y=>.ret (.dp t y,[]) else .fail
  |.ptr id p,.d (.int _) n=>.getH id fun
   |some (.var I _)=>.opt (ZW I p) fun q=>(match q.2 with
    |.arr m t=>bif L== .arr m t then .opt (Zs n m) fun j=>.ret (.ptr id (p++[j]),[]) else .fail
    |_=>.fail)
   |_=>.fail
  |_,_=>.fail)
 |.index T x i=>.opt (E.ty T) fun L=>(match A x,A i with
  |.d (.arr m t) xs,.d (.int _) n=>bif L== .arr m t&& !Vc t.size 0 then .opt (idx xs n) fun y=>.ret (.d t y,[]) else .fail
  |.d .str xs,.d (.int _) n=>bif L== .str then .opt (idx xs n) fun y=>.ret (.d (.int .u8) (y.toNat:Int),[]) else .fail
  |_,_=>.fail)
 |.lookup T m k ok=>.opt (E.mty T) fun mt=>(match A m,A k with
  |.mp id,.d D x=>.getH id fun
   |some (.map C K es)=>bif C.keyOk&&mt.1==C&&mt.2==K&&K.data then .opt (Kr D C x) fun y=>
     .ret (bif ok then .tup (.cons (.d K ((ZT (Zm C) y es).getD (zeroEl K))) (.cons (.d .bool (ZT (Zm C) y es).isSome) .nil)) else .d K ((ZT (Zm C) y es).getD (zeroEl K)),[]) else .fail
   |some (.mrows C t m v Ub)=>bif C.keyOk&&mt.1==C&&mt.2== .sl t then .opt (Kr D C x) fun y=>
     .ret (bif ok then .tup (.cons (.nw id v C y) (.cons (.d .bool (ZT (Zm C) y m).isSome) .nil)) else .nw id v C y,[]) else .fail
   |_=>.fail
  |_,_=>.fail)
 |.mapUpdate T m k v=>.opt (E.mty T) fun mt=>(match A m,A k,A v with
  |.mp id,.d D x,.d K z=>.getH id fun
   |some (.map C W es)=>bif C.keyOk&&mt.1==C then .opt (Kr D C x) fun y=>.opt (Kr K W z) fun u=>.ret (.junk,[(id,Ua (.map C W (Kn (Zm C) y u es)))]) else .fail
   |_=>.fail
  |.mp id,.d D x,.vw Z=>.getH id fun
   |some (.mrows C t es u h)=>bif C.keyOk&&mt.1==C&&mt.2== .sl t&&Vg u nid then .opt (Kr D C x) fun y=>.opt (Zz (holeK C h y)) fun _=>(Jq t (.vw Z)).bind fun r=>
     .ret (.junk,(r.2.map fun id=>(id,Ub))++[(id,Ua (.mrows C t (Kn (Zm C) y r.1 es) nid Ub))]) else .fail
   |_=>.fail
  |_,_,_=>.fail)
 |.range T x=>.opt (E.mty T) fun _=>(match A x with
  |.mp id=>.getH id fun
   |some (.map D K m)=>.ret (.ptr nid [],[(id,Ub),(nid,Ua (.rng D K m Ub))])
   |_=>.fail
  |_=>.fail)
 |.next it false=>(match A it with
  |.ptr id []=>.getH id fun
   |some (.rng _ _ [] _)=>.ret (.tup (.cons (.d .bool Ud) .nil),[])
   |_=>.fail
  |_=>.fail)
 |.entry it=>(match A it with
  |.ptr id []=>.getH id fun
   |some (.rng D K _ (Ua e))=>.ret (.tup (.cons (.d D e.1) (.cons (.d K e.2) .nil)),[])
   |_=>.fail
  |_=>.fail)
 |.extract t i=>(match A t with
  |.tup l=>.opt (l.nth i) fun v=>.ret (v,[])
  |_=>.fail)
 |.call c=>(match c.callee with
  |.builtin .len=>(match c.args.toList,c.argTypes[0]? with
   |[x],Ua T=>(Zjt (E.ty T) (E.mty T).isSome (A x)).bind fun v=>.ret (v,[])
   |_,_=>.fail)
  |.builtin .min=>(match c.args.toList with
   |x::l=>(match A x with
    |.d (.int k) a=>(Zbh imin k a (l.map A)).bind fun v=>.ret (v,[])
    |_=>.fail)
   |_=>.fail)
  |.builtin .max=>(match c.args.toList with
   |x::l=>(match A x with
    |.d (.int k) a=>(Zbh imax k a (l.map A)).bind fun v=>.ret (v,[])
    |_=>.fail)
   |_=>.fail)
  |.builtin .append=>(match c.args.toList,(c.argTypes[0]?).bind E.ty with
   |[s,x],Ua (.sl t)=>bif !Jm ((c.argTypes[1]?).bind E.ty) then(match A s,A x,(c.argTypes[1]?).bind E.ty with
      |.nils,.d (.int _) n,Ua (.int _)=>bif (c.argTypes[0]?).any E.rw|| !t.data then .fail else ZjK t nid n
      |_,_,_=>.fail) else bif (c.argTypes[0]?).any E.rw then(match t with
      |.sl Q=>Zji Q nid (A s) (A x)
      |_=>.fail) else(match A s with
      |.nw id ver D k=>Zjh t nid id ver D k (A x)
      |s=>Zjg t nid s (A x))
   |_,_=>.fail)
  |.builtin .copy=>(match c.args.toList,(c.argTypes[0]?).bind E.ty with
   |[d,s],Ua (.sl t)=>Zjj t (A d) (A s)
   |_,_=>.fail)
  |.builtin .cap=>(match c.args.toList,c.argTypes[0]? with
   |[x],Ua T=>(match A x with
    |.nils=>bif Jm (E.ty T) then .ret (.d (.int .i64) (0:Int),[]) else .fail
    |_=>.fail)
   |_,_=>.fail)
  |.value f=>(match A f with
   |.fn f G=>bif !(DP G&&Zdk (c.args.toList.map A)) then .fail else let R:=bif Vg f WL then(Zo.ofList (c.args.toList.map A)).app G else G.app (Zo.ofList (c.args.toList.map A))
    Zbq nid R (RN (Zc1 R) (E.specs (Gc f)))
   |_=>.fail)
  |_=>.fail)
 |_=>.fail
def Zfe(v:AV):Zu Bool:=
 match v with
 |.nils=>.ret Uc
 |.d (.sl _) xs=>.opt (Zz (!xs.isEmpty)) fun _=>.ret Ud
 |.vw id=>.getH id fun
  |some (.vec _ xs)=>.opt (Zz (!xs.isEmpty)) fun _=>.ret Ud
  |_=>.fail
 |_=>.fail
def unc{α β:Type} :List (α×β)->Option (α×List (α×β) ×β)
 |[]=>Ub
 |y::l=>Ua (y.1,l,y.2)
def Zdb:Option Ty->Bool
 |some (.pt _)=>Uc
 |some (.lk _ _)=>Uc
 |some (.pn _)=>Uc
 |_=>Ud
def AV.isPtD:AV->Bool
 |.d (.pt _) _=>Uc
 |.d (.lk _ _) _=>Uc
 |.d (.pn _) _=>Uc
 |_=>Ud
def RG(v:AV):Zu AV:=match v with
 |.d (.pt t) o=>.opt o fun y=>.ret (.dp t y)
 |.d (.lk a b) l=>.opt (unc l) fun y=>.ret (.dp (ZaQ a b) y)
 |.d (.pn t) o=>.opt o fun y=>.ret (.dp t y.2)
 |_=>.fail
def Zfo(v:AV):Option Bool:=match v with
 |.d (.pt _) o=>Ua o.isNone
 |.d (.lk _ _) l=>Ua l.isEmpty
 |.d (.pn _) o=>Ua o.isNone
 |_=>Ub
def WT(E:Ka)(nid:Nat)(op:Op)(rt:TypeId)(z:Operand->AV):Zu (AV×Kx):=
 match op with
 |.mapEntry T m k=>.opt (E.mty T) fun mt=>(match z m,z k with
  |.mp id,.d Q x=>.getH id fun
   |some (.mrows A t es v Ub)=>bif A.keyOk&&mt.1==A&&mt.2== .sl t then .opt (Kr Q A x) fun y=>
     .ret (.tup (.cons (.nw id v A y) (.cons (.d (.int .i64) ((DM (Zm A) y es:Nat):Int)) .nil)),[(id,Ua (.mrows A t (Kn (Zm A) y ((ZT (Zm A) y es).getD []) es) v Ub))]) else .fail
   |_=>.fail
  |_,_=>.fail)
 |.entryStore T m s x=>.opt (E.mty T) fun mt=>(match z m,z s,z x with
  |.mp id,.d (.int _) n,.vw O=>.getH id fun
   |some (.mrows A t es u h)=>bif A.keyOk&&mt.1==A&&mt.2== .sl t&&Vg u nid then .opt (idx es n) fun e=>.opt (Zz (holeK A h e.1)) fun _=>(Jq t (.vw O)).bind fun r=>
     .ret (.junk,(r.2.map fun id=>(id,Ub))++[(id,Ua (.mrows A t (Kn (Zm A) e.1 r.1 es) nid Ub))]) else .fail
   |_=>.fail
  |_,_,_=>.fail)
 |.indexAddr T x i=>(match z x,z i with
  |.vw id,.d (.int _) n=>.getH id fun
   |some (.vco C xs)=>bif E.ty T==Ua (.sl (.pn C)) then .opt (Zs n xs.length) fun j=>.ret (.op id j,[]) else .fail
   |_=>ZN E nid (.indexAddr T x i) rt z
  |_,_=>ZN E nid (.indexAddr T x i) rt z)
 |.slice T x D I K=>(match z x,K with
  |.vw id,none=>.getH id fun
   |some (.vco C xs)=>bif !(E.ty T==Ua (.sl (.pn C))) || !(XL z D&&XL z I) then .fail else .opt (sliceB xs.length xs.length (D.bind fun o=>KR (z o)) (I.bind fun o=>KR (z o))) fun r=>.ret (.vw nid,[(id,Ub),(nid,Ua (.vco C ((xs.drop r.1).take (r.2 - r.1))))])
   |_=>ZN E nid (.slice T x D I K) rt z
  |.ptr id [],none=>.getH id fun
   |some (.var L (.d (.arr n t) xs))=>bif !(XL z D&&XL z I) || !(E.ty T==Ua (.arr n t)) || !(L== .arr n t) then .fail else .opt (sliceB n n (D.bind fun o=>KR (z o)) (I.bind fun o=>KR (z o))) fun r=>.ret (.d (.sl t) ((xs.drop r.1).take (r.2 - r.1)),[(id,Ub)])
   |_=>ZN E nid (.slice T x D I K) rt z
  |_,_=>ZN E nid (.slice T x D I K) rt z)
 |.nilCheck x=>bif (z x).isPtD then(RG (z x)).bind fun _=>.ret (z x,[]) else ZN E nid op rt z
 |.fieldAddr T x f=>bif (z x).isPtD then(RG (z x)).bind fun v=>ZN E nid (.fieldAddr T x f) rt fun _=>v else ZN E nid op rt z
 |.call c=>(match c.callee with
  |.builtin .clear=>(match c.args.toList,(c.argTypes[0]?).bind E.ty with
   |[x],Ua (.sl t)=>(match z x with
    |.vs id D n=>.getH id fun
     |some (.vec J xs)=>bif J==t&&J.data then .opt (Zz (Ue (D+n<=xs.length))) fun _=>.ret (.tup .nil,[(id,Ua (.vec J (xs.take D++Vt n (zeroEl J)++xs.drop (D+n))))]) else .fail
     |_=>.fail
    |_=>.fail)
   |_,_=>.fail)
  |.builtin .append=>(match c.args.toList,(c.argTypes[0]?).bind E.ty with
   |[s,x],Ua (.sl (.pn C))=>(match z s with
    |.vw id=>.getH id fun
     |some (.vco M xs)=>bif !Jm ((c.argTypes[1]?).bind E.ty) then .fail else .opt (Kr (.sl (.pn M)) (.sl (.pn C)) xs) fun xs=>(GE (.pn C) (z x)).bind fun y=>
       .opt (Zz (Ue (xs.length+y.1.length<=ZD))) fun _=>.ret (.vw nid,[(id,Ub),(nid,Ua (.vco C (xs++y.1)))])
     |_=>ZN E nid op rt z
    |_=>ZN E nid op rt z)
   |_,_=>ZN E nid op rt z)
  |_=>ZN E nid op rt z)
 |.makeFunc fn first G=>bif first.isEmpty then ZN E nid (.makeFunc fn first G) rt z else(match fn with
  |.func f=>bif G.isEmpty&&DP (Zo.ofList (first.toList.map z)) then .ret (.fn (f+WL) (Zo.ofList (first.toList.map z)),[]) else .ret (.junk,[])
  |_=>.ret (.junk,[]))
 |.load T a=>bif (z a).isPtD then(RG (z a)).bind fun v=>ZN E nid (.load T a) rt fun _=>v else(match z a with
  |.op id j=>.getH id fun
   |some (.vco C xs)=>bif E.ty T==Ua (.pn C) then .opt xs[j]? fun x=>.ret (.d (.pn C) x,[]) else .fail
   |_=>.fail
  |_=>ZN E nid op rt z)
 |.store T a x=>bif (Zdb (E.ty T) ||Jm (E.ty T) &&E.zx T) && !(z x).isPtD then .opt (E.ty T) fun t=>(Kk t (z x)).bind fun r=>(match z a with
   |.ptr id p=>bif KO id r.2 then .fail else .getH id fun
    |some (.var L c)=>(D9 L c p (.d t r.1)).bind fun N=>.ret (.junk,(r.2.map fun i=>(i,Ub))++[(id,Ua (.var L N))])
    |_=>.fail
   |_=>.fail) else ZN E nid op rt z
 |.binOp b T x y _=>(match z x,z y with
  |.d t p,.nilr true=>.opt (Zfo (.d t p)) fun r=>bif E.ty T==Ua t then(match b with
   |.eql=>.ret (.d .bool r,[])
   |.neq=>.ret (.d .bool (!r),[])
   |_=>.fail) else .fail
  |.d (.pn t) p,.d (.pn J) q=>bif E.ty T==Ua (.pn t) &&J==t&& !Vc t.size 0 then(match b with
   |.eql=>.ret (.d .bool (Ue (p.map Ve=q.map Ve)),[])
   |.neq=>.ret (.d .bool (!Ue (p.map Ve=q.map Ve)),[])
   |_=>.fail) else .fail
  |u,.nils=>bif Jm (E.ty T) then(Zfe u).bind fun r=>(match b with
   |.eql=>.ret (.d .bool r,[])
   |.neq=>.ret (.d .bool (!r),[])
   |_=>.fail) else ZN E nid op rt z
  |_,_=>ZN E nid op rt z)
 |op=>ZN E nid op rt z
end
end Tr
end
section
namespace Tr
open Go
theorem Zhr{w:World}{I i:Nat->Prop}{t:Ty}(m:∀(x y:El t) (c:List Value),Rd w I t x c->Rd w i t y c->x=y):∀(xs d:List (El t)) (css b:List (List Value)),Fa (Rd w I t) xs css->Fa (Rd w i t) d b->xs.length=d.length->css.flatten=b.flatten->xs=d
 |[],[],_,_,_,_,_,_=>rfl
 |[],_::_,_,_,_,_,h,_=>by simp at h
 |_::_,[],_,_,_,_,h,_=>by simp at h
 |x::xs,y::d,[],_,h,_,_,_=>by simp [Fa]at h
 |x::xs,y::d,_::_,[],_,h,_,_=>by simp [Fa]at h
 |x::xs,y::d,c::css,j::b,h,f,n,k=>by simp only[Fa]at h f;simp only[Vna]at k;have e:c.length=j.length:=(Rd.length t x c h.1).trans (Rd.length t y j f.1).symm;obtain⟨rfl,p⟩:=Vu k e;rw[m x y c h.1 f.1,Zhr m xs d css b h.2 f.2 (by simpa using n) p]
theorem ZlK{w:World}{b off:Nat}{l m:List Value}(h:Kw w b off l)(c:Kw w b off m)(f:l.length=m.length):l=m:=by refine List.ext_getElem f fun j d e=>?_;have:=(h j d).symm.trans (c j e);exact Ky this
theorem ZmQ{w:World}{I j:Nat->Prop}{a b:Ty}(q:∀(x y:El a) (c:List Value),Rd w I a x c->Rd w j a y c->x=y)(r:∀(x y:El b) (c:List Value),Rd w I b x c->Rd w j b y c->x=y):
 ∀(x y:List (El a×El b)) (cs:List Value),XF w I (Rd w I a) (Rd w I b) x cs->XF w j (Rd w j a) (Rd w j b) y cs->x=y
 |[],[],_,_,_=>rfl
 |[],y::l,cs,h,d=>by
  simp only[XF]at h d;obtain⟨_,_,_,_,_,e,_⟩:=d
  rw[h]at e;simp at e
 |x::l,[],cs,h,d=>by
  simp only[XF]at h d;obtain⟨_,_,_,_,_,e,_⟩:=h
  rw[d]at e;simp at e
 |x::l,y::m,cs,h,d=>by simp only[XF]at h d;obtain⟨p,off,D,cl,G,e,_,R,K,L,M⟩:=h;obtain⟨Y,N,s,O,z,f,_,A,k,i,n⟩:=d;rw[e]at f;simp only[Xe,Vja.injEq,ZB,Addr.mk.injEq,and_true]at f;obtain⟨rfl,rfl⟩:=f;obtain⟨u,rfl⟩:=XF.length L;obtain⟨Z,rfl⟩:=XF.length i;have J:=(Rd.length a x.1 D K).trans (Rd.length a y.1 s k).symm;have Q:=(Rd.length b x.2 G M).trans (Rd.length b y.2 z n).symm;have S:=ZlK R A (by simp [J,Q]);obtain⟨rfl,C⟩:=Vu S J;obtain⟨U,rfl⟩:=Vu C (by simp);rw[<-U]at i;have V:=q x.1 y.1 D K k;have W:=r x.2 y.2 G M n;have X:=ZmQ q r l m _ L i;rw[X,show x=y from Vza V W]
theorem Rd.det{w:World}{I M:Nat->Prop} :∀(t:Ty) (x y:El t) (cs:List Value),Rd w I t x cs->Rd w M t y cs->x=y
 |.int _,x,y,cs,h,d=>by
  simp only[Rd]at h d;rw[h]at d;simp at d
  exact d
 |.bool,x,y,cs,h,d=>by
  simp only[Rd]at h d;rw[h]at d;simp at d
  exact d
 |.str,x,y,cs,h,d=>by
  simp only[Rd]at h d;rw[h]at d;simp at d
  exact d
 |.sl t,x,y,cs,h,d=>by
  simp only[Rd]at h d;obtain⟨a,cap,s,j,z,r,_⟩:=h;obtain⟨S,J,m,i,k,f,_⟩:=d;rw[j]at i;simp only[Xe,Vab.injEq,and_true]at i;obtain⟨rfl,A,rfl⟩:=i;by_cases G:x=[]
  ·subst G
   cases y with
   |nil=>rfl
   |cons b l=>simp at A
  ·obtain⟨b,off,rfl,_,R⟩:=r G;obtain⟨N,L,K,_,D⟩:=f (fun e=>G (by subst e;cases x with|nil=>rfl|cons _ _=>simp at A));simp only[ZB,Addr.mk.injEq,and_true]at K;obtain⟨rfl,rfl⟩:=K;refine Zhr (fun x y c p q=>Rd.det t x y c p q) x y s m z k A (ZlK R D ?_)
   rw[JM (Rd.all_length z),JM (Rd.all_length k), <-z.length, <-k.length,A]
 |.unit,_,_,_,_,_=>rfl
 |.prod a b,x,y,cs,h,d=>by
  simp only[Rd]at h d;obtain⟨U,V,rfl,z,r⟩:=h;obtain⟨W,X,i,k,f⟩:=d;obtain⟨rfl,rfl⟩:=Vu i ((Rd.length a _ _ z).trans (Rd.length a _ _ k).symm)
  exact Vza (Rd.det a _ _ _ z k) (Rd.det b _ _ _ r f)
 |.arr n t,x,y,cs,h,d=>by
  simp only[Rd]at h d;obtain⟨j,s,rfl,r⟩:=h;obtain⟨i,m,k,f⟩:=d
  exact Zhr (fun x y c p q=>Rd.det t x y c p q) x y s m r f (j.trans i.symm) k
 |.ref,_,_,_,h,_=>h.elim
 |.pt t,x,y,cs,h,d=>by
  simp only[Rd]at h d
  cases x with
  |none=>cases y with
   |none=>rfl
   |some y=>
    simp only[Hx]at h d;obtain⟨_,_,_,j,_⟩:=d
    rw[h]at j;simp at j
  |some x=>cases y with
   |none=>
    simp only[Hx]at h d;obtain⟨_,_,_,j,_⟩:=h
    rw[d]at j;simp at j
   |some y=>
    simp only[Hx]at h d;obtain⟨b,c,e,j,_,r,C⟩:=h;obtain⟨N,O,Q,i,_,f,u⟩:=d;rw[j]at i;simp only[Xe,Vja.injEq,ZB,Addr.mk.injEq,and_true]at i;obtain rfl:=i;rw[r]at f;injection f with f;injection f with f;subst f
    exact congrArg Ua (Rd.det t x y _ C u)
 |.lk a b,x,y,cs,h,d=>by
  simp only[Rd]at h d
  exact ZmQ (fun x y c p q=>Rd.det a x y c p q) (fun x y c p q=>Rd.det b x y c p q) x y cs h d
 |.pn t,x,y,cs,h,d=>by
  simp only[Rd]at h d
  cases x with
  |none=>cases y with
   |none=>rfl
   |some y=>
    simp only[YN]at h d;obtain⟨_,_,j,_⟩:=d
    rw[h]at j;simp at j
  |some x=>cases y with
   |none=>
    simp only[YN]at h d;obtain⟨_,_,j,_⟩:=h
    rw[d]at j;simp at j
   |some y=>
    simp only[YN]at h d;obtain⟨c,e,j,_,r,C⟩:=h;obtain⟨O,Q,i,_,f,u⟩:=d;rw[j]at i;simp only[Xe,Vja.injEq,ZB,Addr.mk.injEq,and_true]at i;rw[<-i,r]at f;injection f with f;injection f with f;subst f;exact congrArg Ua (Vza i (Rd.det t x.2 y.2 _ C u))
end Tr
end
section
namespace Tr
open Go
noncomputable section
structure AS where
 F:Nat->AV
 H:AH
 nx:Nat
 fz:List Nat
def XB(F:Nat->AV)(n:Nat)(v:AV):Nat->AV:=fun k=>bif Vc k n then v else F k
def W0(F:Nat->AV)(d:Option Nat)(v:AV):Nat->AV:=match d with
 |some n=>XB F n v
 |none=>F
def Zcg:AV:=.tup .nil
def Zp(H:AH):Kx->AH
 |[]=>H
 |p::l=>Zp (ZY H p.1 p.2) l
inductive Ex where
 |normal
 |exit (id:Nat)
 |ret
 |jump (l:Nat)
def Ex.beq:Ex->Ex->Bool
 |.normal,.normal=>Uc
 |.exit a,.exit b=>Vc a b
 |.ret,.ret=>Uc
 |.jump a,.jump b=>Vc a b
 |_,_=>Ud
def Jn{σ τ:Type}(step:σ->Option (σ ⊕ τ)):Nat->σ->Option τ
 |0,_=>Ub
 |n+1,s=>match step s with
  |some (.inl b)=>Jn step n b
  |some (.inr r)=>Ua r
  |none=>Ub
open Classical in
noncomputable def run{σ τ:Type}(step:σ->Option (σ ⊕ τ))(s:σ):Option τ:=
 match Jn step 100000 s with
 |some r=>Ua r
 |none=>if h:∃r n,Jn step n s=Ua r then Ua h.choose else Ub
def Hv{σ τ ρ:Type}(cnt:σ->Nat)(step:σ->Nat->Option (σ ⊕ τ))(k:τ->Option ρ)(z:ρ):Nat->σ->Prop
 |0,_=>False
 |n+1,s=>∀i,i<cnt s->(∃b,step s i=Ua (.inl b)/\Hv cnt step k z n b)\/ ∃t,step s i=Ua (.inr t)/\k t=Ua z
def ZcT{σ τ ρ:Type}(cnt:σ->Nat)(step:σ->Nat->Option (σ ⊕ τ))(k:τ->Option ρ):Nat->σ->Option ρ
 |0,_=>Ub
 |n+1,s=>bif Vw (cnt s) 1 then(match step s 0 with
  |some (.inl b)=>ZcT cnt step k n b
  |some (.inr t)=>k t
  |none=>Ub) else Ub
open Classical in
noncomputable def drun{σ τ ρ:Type}(cnt:σ->Nat)(step:σ->Nat->Option (σ ⊕ τ))(k:τ->Option ρ)(s:σ):Option ρ:=
 match ZcT cnt step k 1000 s with
 |some r=>Ua r
 |none=>if h:∃z n,Hv cnt step k z n s then Ua h.choose else Ub
structure Wj where
 i:Nat
 rd:List Nat
 wr:List Nat
def YX(E:Ka):Option Nat->Bool
 |some d=>Vg d E.nt&& !KO d E.ks
 |none=>Uc
def YT(E:Ka)(ops:Array Oper)(base:Nat)(fz:List Nat)(ρ:Type):List (Oper×Nat)->(Nat->AV)->AH->List Wj->((Nat->AV)->AH->List Wj->Option ρ)->Option ρ
 |[],F,H,c,k=>k F H c
 |(o,i)::rest,F,H,c,k=>
  let go:=fun(F:Nat->AV)=>bif YX E o.dst then
   (WT E (base+i*E.stp) o.op o.type (Zx F)).runK H [] fun r rd=>
     bif J1 (r.2.map Ve) fz then
      YT E ops base fz ρ rest (W0 F o.dst r.1) (Zp H r.2) (⟨i,rd,r.2.map Ve⟩::c) k else Ub else Ub
  let skip:=fun(F:Nat->AV)=>bif YX E o.dst then YT E ops base fz ρ rest (W0 F o.dst Zcg) H c k else Ub
  match o.guard with
  |none=>go F
  |some (j,want)=>match (ops[j]?).bind (·.dst) with
   |none=>Ub
   |some g=>match F g with
    |.d .bool b=>bif b then(bif want then go (XB F g (.d .bool Uc)) else skip (XB F g (.d .bool Uc)))
      else(bif want then skip (XB F g (.d .bool Ud)) else go (XB F g (.d .bool Ud)))
    |.tup .nil=>skip F
    |_=>Ub
def Za1:List Operand->List Nat
 |[]=>[]
 |.tmp t::l=>t::Za1 l
 |_::l=>Za1 l
def GZ(ops:Array Oper)(o:Oper):List Nat:=
 (match o.guard with
   |some (j,_)=>((ops[j]?).bind (·.dst)).toList
   |none=>[])++Za1 o.op.operands.toList
def ZfE(ops:Array Oper)(a b:Oper):Bool:=
 (match a.dst with
   |some d=> !KO d (GZ ops b) && (match b.dst with|some e=> !Vc d e|none=>Uc)
   |none=>Uc) &&
 (match b.dst with
   |some d=> !KO d (GZ ops a)
   |none=>Uc)
def Yf(i:Nat):List Wj->Option Wj
 |[]=>Ub
 |t::l=>bif Vc t.i i then Ua t else Yf i l
def ZnR(c:List Wj)(i j:Nat):Bool:=
 match Yf i c,Yf j c with
 |some a,Ua b=>J1 a.wr b.rd&&J1 a.wr b.wr&&J1 b.wr a.rd
 |_,_=>Uc
def ZfR(ops:Array Oper):List (Nat×Nat):=
 let b:=Region.before ops
 (Vp ops.size).flatMap fun j=>(Vp j).filterMap fun i=>if (b.getD j 0).testBit i then Ub else Ua (i,j)
def ZvP(ops:Array Oper):Bool:=(ZfR ops).all fun p=>match ops[p.1]?,ops[p.2]? with
 |some a,Ua b=>ZfE ops a b
 |_,_=>Uc
def Zhi(ops:Array Oper):Bool:=ops.toList.zipIdx.all fun p=>p.1.after.all fun e=> !Region.binds .any e||Vg e.on p.2
def Zbz(ops:Array Oper)(b:List Wj):Bool:=
 Zhi ops&&ZvP ops&& (b.all (fun t=>t.wr.isEmpty) || (ZfR ops).all fun p=>ZnR b p.1 p.2)
@[reducible] def ElT:List (Nat×Ty)->Type
  |[]=>Unit
  |[(_,t)]=>El t
  |(_,t)::p::l=>El t×ElT (p::l)
def ZbX(F:Nat->AV):(l:List (Nat×Ty))->Option (ElT l)
 |[]=>Ua ()
 |[(n,t)]=>(match F n with
  |.d b x=>Kr b t x
  |_=>Ub)
 |(n,t)::p::l=>(match F n with
  |.d b x=>(Kr b t x).bind fun y=>(ZbX F (p::l)).bind fun z=>Ua (y,z)
  |_=>Ub)
def inT(F:Nat->AV):(l:List (Nat×Ty))->ElT l->Nat->AV
 |[],_=>F
 |[(n,t)],x=>XB F n (.d t x)
 |(n,t)::p::l,x=>inT (XB F n (.d t x.1)) (p::l) x.2
def ZhN(l:List Nat)(F:Nat->AV):Nat->AV:=fun k=>bif KO k l then .junk else F k
def ZeG(ops:List Oper):List Nat:=ops.filterMap (·.dst)
def Zii(E:Ka)(ops:Array Oper)(draw:Bool)(outs:Option (List (Nat×Ty)))(ρ:Type)(s:AS)(k:AS->Option ρ):Option ρ:=
 let nx:=s.nx+ops.size*E.stp
 match outs with
 |none=>YT E ops s.nx s.fz ρ ops.toList.zipIdx s.F s.H [] fun F H b=>bif !draw||Zbz ops b then k ⟨F,H,nx,s.fz⟩ else Ub
 |some l=>(YT E ops s.nx s.fz (ElT l) ops.toList.zipIdx s.F s.H [] fun F _ b=>bif (!draw||Zbz ops b) &&b.all (fun t=>t.wr.isEmpty) then ZbX F l else Ub).bind
   fun x=>k ⟨inT (ZhN (ZeG ops.toList) s.F) l x,s.H,nx,s.fz⟩
structure WQ where
 roots:List (Nat×Pat)
 fns:List (Nat×FuncId×List Nat):=[]
 kept:List Nat:=[]
 als:List (Nat×Nat):=[]
 kf:List (Nat×Nat×Nat):=[]
 kv:List Nat:=[]
@[reducible] def Ja:List (Nat×Pat)->Type
  |[]=>Unit
  |[(_,p)]=>K2 p
  |(_,p)::q::l=>K2 p×Ja (q::l)
def Zas(F:Nat->AV):(l:List (Nat×Pat))->Zu (Ja l×ZF)
 |[]=>.ret ((),ZF.none)
 |[(n,p)]=>ext p (F n)
 |(n,p)::q::l=>(ext p (F n)).bind fun x=>(Zas F (q::l)).bind fun y=>.ret ((x.1,y.1),x.2.app y.2)
def WG:(l:List (Nat×Pat))->Ja l->Nat->List (Nat×AV) ×List (Nat×K1) ×Nat
 |[],_,n=>([],[],n)
 |[(m,p)],x,n=>let r:=inj p x n;([(m,r.1)],r.2.1,r.2.2)
 |(m,p)::q::l,x,n=>let r:=inj p x.1 n;let s:=WG (q::l) x.2 r.2.2;((m,r.1)::s.1,r.2.1++s.2.1,s.2.2)
def RT:List (Nat×AV)->Nat->AV
 |[],_=>.junk
 |p::l,k=>bif Vc k p.1 then p.2 else RT l k
def WH:List (Nat×K1)->AH
 |[],_=>Ub
 |p::l,k=>bif Vc k p.1 then Ua p.2 else WH l k
def AV.box? :AV->Option Nat
 |.ptr id []=>Ua id
 |_=>Ub
def DO(F:Nat->AV):Zo->List Nat->Bool
 |.nil,[]=>Uc
 |.cons v l,n::m=>(match v.box?,(F n).box? with
  |some a,Ua b=>Vc a b
  |_,_=>Ud) &&DO F l m
 |_,_=>Ud
def Zc3(F:Nat->AV):List (Nat×FuncId×List Nat)->Bool
 |[]=>Uc
 |(n,f,l)::m=>(match F n with
  |.fn c b=>Vc c f&&DO F b l
  |_=>Ud) &&Zc3 F m
def Zd7(F:Nat->AV):List (Nat×FuncId×List Nat)->Nat->AV
 |[]=>F
 |(n,f,l)::m=>XB (Zd7 F m) n (.fn f (Zo.ofList (l.map F)))
def Zgt(x y:AV):Bool:=match x,y with
 |.vw a,.vw b=>Vc a b
 |.mp a,.mp b=>Vc a b
 |.ptr a [],.ptr b []=>Vc a b
 |.nils,.nils=>Uc
 |_,_=>Ud
def ZcC(F:Nat->AV):List (Nat×Nat)->Bool
 |[]=>Uc
 |p::l=>Zgt (F p.1) (F p.2) &&ZcC F l
def Zd6(F:Nat->AV):List (Nat×Nat)->Nat->AV
 |[]=>F
 |p::l=>XB (Zd6 F l) p.1 (F p.2)
def AV.boxes:Zo->List Nat
 |.nil=>[]
 |.cons v l=>v.box?.toList++AV.boxes l
def Zo.ls:Zo->List AV
 |.nil=>[]
 |.cons v l=>v::l.ls
def DS(H:AH):Nat->AV->List Nat
 |0,_=>[]
 |n+1,v=>match v with
  |.ptr id []=>id::(match H id with
   |some (.var _ c)=>DS H n c
   |_=>[])
  |.vw id=>[id]
  |.nw id _ _ _=>[id]
  |.mp id=>[id]
  |.agg l=>l.ls.flatMap (DS H n)
  |_=>[]
def GJ(s:AS):List Nat->List Nat
 |[]=>[]
 |n::l=>(match s.F n with
  |.fn _ b=>AV.boxes b
  |v=>DS s.H 8 v)++GJ s l
def Xw(H:AH)(id:Nat):Bool:=match H id with
 |some (.var _ _)=>Uc
 |some (.vec _ _)=>Uc
 |some (.map _ _ _)=>Uc
 |some (.rows _ _ _ Ub)=>Uc
 |some (.mrows _ _ _ _ Ub)=>Uc
 |some (.rng _ _ _ _)=>Uc
 |some (.dat _ _)=>Uc
 |some (.bld _ _ _)=>Uc
 |some (.vco _ _)=>Uc
 |_=>Ud
def Zef(H:AH):Zo->Bool
 |.nil=>Uc
 |.cons v l=>(match v with
  |.ptr id []=>Xw H id
  |.dp _ _=>Uc
  |.d _ _=>Uc
  |_=>Ud) &&Zef H l
def Gi(s:AS):List Nat->Bool
 |[]=>Uc
 |n::l=>(match s.F n with
  |.d _ _=>Uc
  |.dp _ _=>Uc
  |.nilr _=>Uc
  |.nils=>Uc
  |.ptr id []=>(DS s.H 8 (.ptr id [])).all (Xw s.H)
  |.vw id=>Xw s.H id
  |.nw id _ _ _=>Xw s.H id
  |.mp id=>Xw s.H id
  |.fn _ b=>Zef s.H b
  |_=>Ud) &&Gi s l
def Z7(b:AS)(e:WQ):List Nat:=GJ b e.kept++b.fz
def Wo(E:Ka)(e:WQ):Ka:= {E with ks:=e.kept++(e.kv++E.ks)}
def Zh9(fz:List Nat)(e:WQ)(s:AS):Option (Ja e.roots):=
 (Zas s.F e.roots).runK s.H [] fun r _=>bif r.2.ok fz&&J1 r.2.br fz&&Zc3 s.F e.fns&&ZcC s.F e.als then Ua r.1 else Ub
def ZbM(b:AS)(fz:List Nat)(e:WQ)(x:Ja e.roots):AS:=
 let r:=WG e.roots x b.nx
 ⟨Zd6 (Zd7 (fun k=>bif KO k e.kept then b.F k else RT r.1 k) e.fns) e.als,fun id=>bif KO id (Z7 b e) then b.H id else WH r.2.1 id,r.2.2,fz⟩
def HK(s:AS)(k:Nat×Nat×Nat):Option Nat:=match s.F k.1 with
 |.ptr id []=>(match s.H id with
  |some (.var T (.agg c))=>(match c.nth k.2.1 with
   |some (.vw a)=>bif Vc (RW T k.2.1) k.2.2 then Ua a else Ub
   |_=>Ub)
  |_=>Ub)
 |_=>Ub
def Zdd(b s:AS):List (Nat×Nat×Nat)->Bool
 |[]=>Uc
 |k::l=>(match HK b k,HK s k with
  |some x,Ua y=>Vc x y
  |_,_=>Ud) &&Zdd b s l
def D2(b:AS)(fz:List Nat)(k:Nat×Nat×Nat)(s:AS):AS:=match HK b k,HK s k,s.F k.1 with
 |some a,Ua d,.ptr id []=>(match s.H id,s.H d,b.H a with
  |some (.var T (.agg c)),Ua (.vec t xs),Ua (.vec e _)=>bif e==t&& !Vc d id&& !Vc a id&& !KO a fz&& !KO d fz&& !KO id fz then
    {s with H:=ZY (ZY (ZY (ZY s.H d Ub) id Ub) a (Ua (.vec t xs))) id (Ua (.var T (.agg (c.putNth k.2.1 (.vw a)))))} else s
  |_,_,_=>s)
 |_,_,_=>s
def RY(b:AS)(fz:List Nat):List (Nat×Nat×Nat)->AS->AS
 |[],s=>s
 |k::l,s=>RY b fz l (D2 b fz k s)
def Zgq(b:AS):List Nat->(Nat->AV)->Nat->AV
 |[],F=>F
 |n::l,F=>Zgq b l (XB F n (b.F n))
def XR(b:AS)(fz:List Nat)(e:WQ)(s:AS):Option (Ja e.roots):=bif Zdd b s e.kf then Zh9 fz e s else Ub
def Xi(b:AS)(fz:List Nat)(e:WQ)(x:Ja e.roots):AS:=
 let s:=RY b (Z7 b e) e.kf (ZbM b fz e x)
 ⟨Zgq b e.kv s.F,s.H,s.nx,fz⟩
abbrev HZ:=List (Ex×WQ)
@[reducible] def Yj:HZ->Type
  |[]=>Empty
  |[e]=>Ja e.2.roots
  |e::f::l=>Ja e.2.roots ⊕ Yj (f::l)
def Yz(b:AS)(fz:List Nat):(J:HZ)->Ex->AS->Option (Yj J)
 |[],_,_=>Ub
 |[e],x,s=>bif x.beq e.1 then XR b fz e.2 s else Ub
 |e::f::l,x,s=>bif x.beq e.1 then(XR b fz e.2 s).bind fun y=>Ua (.inl y) else(Yz b fz (f::l) x s).bind fun y=>Ua (.inr y)
def Du{ρ:Type}(b:AS):(J:HZ)->Yj J->(Ex->AS->Option ρ)->Option ρ
 |[],_,_=>Ub
 |[e],y,k=>k e.1 (Xi b b.fz e.2 y)
 |e::f::l,y,k=>match y with
  |.inl y=>k e.1 (Xi b b.fz e.2 y)
  |.inr y=>Du b (f::l) y k
def WQ.slots(e:WQ):List Nat:=e.roots.map Ve++e.fns.map Ve++e.kept
def Gg(e:WQ):HZ->Bool
 |[]=>Uc
 |f::l=>f.2.kept.all (fun n=>KO n e.kept) &&f.2.kv.all (fun n=>KO n e.kv) &&Gm f.2.slots&&Gg e l
inductive K3 where
 |leaf
 |seq (a b:K3)
 |cnd (J:Option (WQ×HZ)) (a b:K3)
 |lp (e:WQ) (J:HZ) (h:K3)
 |lpd (it:Nat) (e:WQ) (J:HZ) (h:K3)
 |reg (outs:List (Nat×Ty))
 |all (n:Nat)
 |det (n:Nat) (a b:K3)
def K3.l:K3->K3
 |.seq a _=>a
 |.det _ a _=>a
 |.cnd _ a _=>a
 |.all n=>.all n
 |_=>.leaf
def K3.r:K3->K3
 |.seq _ b=>b
 |.det _ _ b=>b
 |.cnd _ _ b=>b
 |.all n=>.all n
 |_=>.leaf
def K3.dt:K3->Option Nat
 |.det n _ _=>Ua n
 |_=>Ub
def Zg7(n:Nat){ρ:Type}(s:AS)(go:AS->Option ρ):Option ρ:=match s.F n with
 |.nw id ver b k=>bif KO id s.fz then Ub else(Yn id ver b k).runK s.H [] fun r _=>(Zd4 id s.nx b k).runK s.H [] fun o _=>
   go ⟨XB s.F n (.vw s.nx),ZY (ZY s.H id (Ua o)) s.nx (Ua (.vec r.1 r.2)),s.nx+1,s.fz⟩
 |_=>Ub
def Zg8(h:K3){ρ:Type}(s:AS)(go:AS->Option ρ):Option ρ:=match h.dt with
 |none=>go s
 |some n=>Zg7 n s go
def K3.join:K3->Option (WQ×HZ)
 |.cnd J _ _=>J
 |_=>Ub
def K3.outs:K3->Option (List (Nat×Ty))
 |.reg l=>Ua l
 |_=>Ub
def D6(it:Nat)(s:AS):Nat:=match s.F it with
 |.ptr id []=>(match s.H id with
  |some (.rng _ _ rest _)=>bif rest.isEmpty then 1 else rest.length
  |_=>1)
 |_=>1
def ZaO(E:Ka)(ops:Array Oper)(it i:Nat)(ρ:Type)(s:AS)(k:AS->Option ρ):Option ρ:=
 match ops.toList.zipIdx with
 |[]=>Ub
 |(o,_)::l=>(match o.op,o.guard,o.dst with
  |.next (.tmp b) Ud,Ub,Ua d=>bif Vc b it&&YX E (Ua d) then(match s.F it with
   |.ptr id []=>(match s.H id with
    |some (.rng c f rest _)=>bif KO id s.fz then Ub else
      bif rest.isEmpty then YT E ops s.nx s.fz ρ l (W0 s.F (Ua d) (.tup (.cons (.d .bool Ud) .nil))) s.H [] fun F H _=>k ⟨F,H,s.nx+ops.size*E.stp,s.fz⟩
      else(rest[i]?).bind fun e=>YT E ops s.nx s.fz ρ l (W0 s.F (Ua d) (.tup (.cons (.d .bool Uc) (.cons (.d c e.1) (.cons (.d f e.2) .nil)))))
       (ZY s.H id (Ua (.rng c f (rest.eraseIdx i) (Ua e)))) [] fun F H _=>k ⟨F,H,s.nx+ops.size*E.stp,s.fz⟩
    |_=>Ub)
   |_=>Ub) else Ub
  |_,_,_=>Ub)
def ZdJ{ρ:Type}(f:AS->(Ex->AS->Option ρ)->Option ρ)(k:Ex->AS->Option ρ):Nat->AS->Option ρ
 |0,_=>Ub
 |n+1,s=>f s fun e b=>match e with
  |.normal=>ZdJ f k n b
  |e=>k e b
noncomputable def Kp:Code->K3->Ka->(ρ:Type)->AS->(Ex->AS->Option ρ)->Option ρ
 |.skip,_,_,_,s,k=>k .normal s
 |.label _,_,_,_,s,k=>k .normal s
 |.scope c,h,E,ρ,s,k=>Kp c h E ρ s fun e f=>match e with
  |.jump _=>Ub
  |e=>k e f
 |.goto l,_,_,_,s,k=>k (.jump l) s
 |.region _ ops draw,h,E,ρ,s,k=>Zii E ops draw h.outs ρ s (k .normal)
 |.seq a b,h,E,ρ,s,k=>Zg8 h s fun s=>Kp a h.l E ρ s fun e f=>match e with
  |.normal=>Kp b h.r E ρ f k
  |e=>k e f
 |.cond c a b,h,E,ρ,s,k=>match Zx s.F c with
  |.d .bool t=>(match h.join with
   |none=>bif t then Kp a h.l E ρ s k else Kp b h.r E ρ s k
   |some (e,J)=>bif Gi s e.kept&&Gg e J then
     (let j:AS:= {s with fz:=Z7 s e}
      bif t then Kp a h.l (Wo E e) (Yj J) j (Yz s (Z7 s e) J) else Kp b h.r (Wo E e) (Yj J) j (Yz s (Z7 s e) J)).bind fun o=>Du s J o k
    else Ub)
  |_=>Ub
 |.block id c,h,E,ρ,s,k=>Kp c h E ρ s fun e f=>match e with
  |.exit i=>bif Vc i id then k .normal f else k (.exit i) f
  |e=>k e f
 |.loop c,h,E,ρ,s,k=>match h with
  |.all n=>ZdJ (fun s k=>Kp c (.all n) E ρ s k) k n s
  |.lp en J m=>bif Gi s en.kept&&Gg en J&&Gm en.slots then
    (XR s (Z7 s en) en s).bind fun x=>(run (fun y=>Kp c m (Wo E en) (Ja en.roots ⊕ Yj J) (Xi s (Z7 s en) en y) fun e f=>match e with
      |.normal=>(XR s (Z7 s en) en f).bind fun z=>Ua (.inl z)
      |e=>(Yz s (Z7 s en) J e f).bind fun z=>Ua (.inr z)) x).bind fun o=>Du s J o k
   else Ub
  |.lpd it en J m=>(match c with
   |.seq (.region _ ops Ud) p=>bif Gi s en.kept&&Gg en J&&Gm en.slots then
     (XR s (Z7 s en) en s).bind fun x=>drun (fun y=>D6 it (Xi s (Z7 s en) en y)) (fun y i=>ZaO (Wo E en) ops it i (Ja en.roots ⊕ Yj J) (Xi s (Z7 s en) en y) fun j=>Kp p m (Wo E en) (Ja en.roots ⊕ Yj J) j fun e f=>match e with
       |.normal=>(XR s (Z7 s en) en f).bind fun z=>Ua (.inl z)
       |e=>(Yz s (Z7 s en) J e f).bind fun z=>Ua (.inr z)) (fun o=>Du s J o k) x
    else Ub
   |_=>Ub)
  |_=>Ub
 |.exit id,_,_,_,s,k=>k (.exit id) s
 |.ret,_,_,_,s,k=>k .ret s
 |_,_,_,_,_,_=>Ub
def Zo.toF:Zo->Nat->AV
 |.nil,_=>Zcg
 |.cons v _,0=>v
 |.cons _ l,n+1=>l.toF n
mutual
def Pat.back:Pat->Bool
 |.own _ k=>k
 |.var _ _=>Uc
 |.map _ _=>Uc
 |.rows _ k=>k
 |.mrows _ _=>Uc
 |.bld _ _ k=>k
 |.fnd _ _ _ _=>Uc
 |.agg l=>l.back
 |.fn _ l=>l.back
 |_=>Ud
def Pats.back:Pats->Bool
 |.nil=>Ud
 |.cons p l=>p.back||l.back
end
mutual
def Zhj:(p:Pat)->K2 p
 |.pd t=>zeroEl t
 |.own _ _=>[]
 |.var _ p=>Zhj p
 |.ro t=>zeroEl t
 |.map _ _=>[]
 |.rows _ _=>[]
 |.mrows _ _=>[]
 |.it _ _=>[]
 |.bld _ _ _=>[]
 |.fnd tn tq lt _=>(zeroEl tn,zeroEl tq,zeroEl lt,[],[],[])
 |.owo _=>[]
 |.agg l=>Zhk l
 |.fn _ l=>Zhk l
 |.nilr=>()
 |.nils=>()
 |.any=>()
def Zhk:(l:Pats)->Ks l
 |.nil=>()
 |.cons p l=>(Zhj p,Zhk l)
end
mutual
def outDef:(p:Pat)->H3 p
 |.own _ true=>[]
 |.own _ false=>()
 |.var _ p=>Zhj p
 |.map _ _=>[]
 |.rows _ true=>[]
 |.rows _ false=>()
 |.mrows _ _=>[]
 |.it _ _=>()
 |.bld _ _ true=>[]
 |.bld _ _ false=>()
 |.fnd tn tq lt _=>(zeroEl tn,zeroEl tq,zeroEl lt,[],[],[])
 |.owo _=>()
 |.agg l=>Zh7 l
 |.fn _ l=>Zh7 l
 |.pd _=>()
 |.ro _=>()
 |.nilr=>()
 |.nils=>()
 |.any=>()
def Zh7:(l:Pats)->We l
 |.nil=>()
 |.cons p l=>(outDef p,Zh7 l)
end
def ZgJ:Pat->AV->Bool
 |.pd t,v=>v.fits t
 |.own t _,v=>v.fits (.sl t)
 |.rows t _,v=>v.fits (.sl (.sl t))
 |.owo b,v=>v.fits (.sl (.pn b))
 |.agg _,_=>Uc
 |.fn _ _,_=>Uc
 |.any,_=>Ud
 |.nils,v=>v.fits (.sl .unit)
 |_,v=>v.fits .ref
mutual
def Jp:(p:Pat)->AV->Zu (H3 p×ZF)
 |.own t Uc,.vw id=>.getH id fun
  |some (.vec b xs)=>.opt (Kr (.sl b) (.sl t) xs) fun y=>.ret (y,⟨[id],[]⟩)
  |_=>.fail
 |.own _ Ud,_=>.ret ((),ZF.none)
 |.var t p,.ptr id []=>.getH id fun
  |some (.var b c)=>bif b==t&&p.fits t then(ext p c).bind fun r=>.ret (r.1,⟨id::r.2.tk,r.2.br⟩) else .fail
  |_=>.fail
 |.map d q,.mp id=>.getH id fun
  |some (.map k e m)=>.opt (Kr (.sl (.prod k e)) (.sl (.prod d q)) m) fun y=>.ret (y,⟨[id],[]⟩)
  |_=>.fail
 |.rows t Uc,.vw id=>.getH id fun
  |some (.rows b xs _ Ub)=>.opt (Kr (.sl (.sl b)) (.sl (.sl t)) xs) fun y=>.ret (y,⟨[id],[]⟩)
  |_=>.fail
 |.rows _ Ud,_=>.ret ((),ZF.none)
 |.mrows d t,.mp id=>.getH id fun
  |some (.mrows k b m _ Ub)=>.opt (Kr (.sl (.prod k (.sl b))) (.sl (.prod d (.sl t))) m) fun y=>.ret (y,⟨[id],[]⟩)
  |_=>.fail
 |.it _ _,_=>.ret ((),ZF.none)
 |.bld T e Uc,.ptr id []=>.getH id fun
  |some (.bld h j i)=>bif Vc h T&&Vc j e then .ret (i,⟨[id],[]⟩) else .fail
  |_=>.fail
 |.bld _ _ Ud,_=>.ret ((),ZF.none)
 |.fnd tn tq lt lb,.ptr id []=>ext (.fnd tn tq lt lb) (.ptr id [])
 |.agg l,.agg vs=>ZaS l vs
 |.fn f l,.fn n vs=>bif Vc n f then ZaS l vs else .fail
 |.owo _,_=>.ret ((),ZF.none)
 |.pd _,_=>.ret ((),ZF.none)
 |.ro _,_=>.ret ((),ZF.none)
 |.nilr,_=>.ret ((),ZF.none)
 |.nils,_=>.ret ((),ZF.none)
 |.any,_=>.ret ((),ZF.none)
 |_,_=>.fail
def ZaS:(l:Pats)->Zo->Zu (We l×ZF)
 |.nil,.nil=>.ret ((),ZF.none)
 |.cons p l,.cons v vs=>bif ZgJ p v then(Jp p v).bind fun x=>(ZaS l vs).bind fun y=>.ret ((x.1,y.1),x.2.app y.2) else .fail
 |_,_=>.fail
end
def ZbZ:(l:Pats)->Zo->Zu (We l×ZF)
 |.nil,_=>.ret ((),ZF.none)
 |.cons p l,.cons v vs=>bif p.back then(Jp p v).bind fun x=>(ZbZ l vs).bind fun y=>.ret ((x.1,y.1),x.2.app y.2)
   else(ZbZ l vs).bind fun y=>.ret ((outDef p,y.1),y.2)
 |_,_=>.fail
def ZaU(E:Ka)(s:AS):List ResultVar->Zu Zo
 |[]=>.ret .nil
 |.tmp t::l=>(ZaU E s l).bind fun vs=>.ret (.cons (s.F t) vs)
 |.cell a T::l=>.opt (E.ty T) fun t=>(match s.F a with
  |.ptr id p=>.getH id fun
   |some (.var _ c)=>(Ge c p).bind fun v=>bif v.fits t&&v.solid then(ZaU E s l).bind fun vs=>.ret (.cons v vs) else .fail
   |_=>.fail
  |_=>.fail)
def XK:Pats->Nat->List Nat
 |.nil,_=>[]
 |.cons p l,n=>(bif p.back then [n] else [])++XK l (n+1)
def Pats.len:Pats->Nat
 |.nil=>0
 |.cons _ l=>l.len+1
def ZdE(F:Nat->AV):Pats->Nat->Zo
 |.nil,_=>.nil
 |.cons _ l,n=>.cons (F n) (ZdE F l (n+1))
def Yq(E:Ka)(results:Array ResultVar)(args res:Pats)(fz:List Nat)(e:Ex)(s:AS):Option (We args×Ks res):=
 match e with
 |.exit _=>Ub
 |.jump _=>Ub
 |_=>((ZaU E s results.toList).bind fun vs=>(WE res vs).bind fun r=>(ZbZ args (ZdE s.F args 0)).bind fun o=>.ret ((o.1,r.1),o.2.app r.2)).runK s.H [] fun r _=>
   bif r.2.ok fz&&J1 r.2.br fz then Ua r.1 else Ub
def GK(ks:List Nat)(f:Zo)(e:AH)(s:AS):List (Nat×Nat×Nat)->Bool
 |[]=>Uc
 |k::l=>(match f.nth k.1,s.F k.1 with
  |some (.ptr id []),.ptr d []=>(match e id,s.H d with
   |some (.var T (.agg c)),Ua (.var h (.agg i))=>(match c.nth k.2.1,i.nth k.2.1 with
    |some (.vw a),Ua (.vw b)=>Vc a b&&h==T&&Vc (RW T k.2.1) k.2.2&&KO k.1 ks
    |_,_=>Ud)
   |_,_=>Ud)
  |_,_=>Ud) &&GK ks f e s l
noncomputable def XO(E:Ka)(body:Code)(results:Array ResultVar)(h:K3)(args res:Pats){α:Type}(pack:We args×Ks res->α)(x:Ks args)(kp:List (Nat×Nat×Nat):=[]):Option α:=
 let r:=Kc args x 0
 Kp body h {E with ks:=XK args 0} α ⟨r.1.toF,WH r.2.1,r.2.2,[]⟩ fun e s=>
  (Yq E results args res [] e s).bind fun y=>bif GK (XK args 0) r.1 (WH r.2.1) s kp then Ua (pack y) else Ub
def mkE(b:List (Nat×Ty))(ms:List (Nat×Ty×Ty))(pks:List (Nat×Nat))(rws zxs:List Nat)(m:List (Nat×List Spec))(nt:Nat)(bds:List (Nat×Nat):=[]):Ka:=
 {ty:=fun n=>b.lookup n,mty:=fun n=>ms.lookup n,pk:=fun n=>(pks.lookup n).getD 0,rw:=fun n=>rws.contains n,zx:=fun n=>zxs.contains n,bd:=fun n=>bds.lookup n,specs:=fun n=>(m.lookup n).getD [],nt:=nt,ks:=[] }
def KX(f:Func):Code:=match f.body with
 |some b=>b
 |none=>.skip
end
end Tr
end
section
namespace Tr
open Go
def GQ(agg:Bool)(cs:List Value):Value:=if agg then .agg cs.toArray else cs.headD undef
theorem Rd.oneCell{w:World}{I:Nat->Prop} :∀(t:Ty) (x:El t) (cs:List Value),Rd w I t x cs->∀v∈cs,v.oneCell' =Uc
 |.int _,_,_,h=>by rw[h];simp [Vb]
 |.bool,_,_,h=>by rw[h];simp [Vb]
 |.str,_,_,h=>by rw[h];simp [Vb]
 |.sl t,x,cs,h=>by
  obtain⟨a,cap,f,e,_⟩:=h
  rw[e];simp [Vb]
 |.unit,_,_,h=>by rw[h];simp
 |.prod a b,x,cs,h=>by
  obtain⟨q,r,e,i,j⟩:=h;rw[e];intro v d;rcases Vga.1 d with d|d
  ·exact Rd.oneCell a _ _ i v d
  ·exact Rd.oneCell b _ _ j v d
 |.arr n t,x,cs,h=>by
  obtain⟨e,f,i,j⟩:=h;rw[i];intro v d;obtain⟨c,k,d⟩:=List.mem_flatten.1 d
  exact j.all_right (p:=fun c=>∀v∈c,v.oneCell' =Uc) (fun y c m=>Rd.oneCell t y c m) c k v d
 |.ref,_,_,h=>h.elim
 |.pt t,x,cs,h=>by obtain⟨a,rfl⟩:=Hx.length h;simp [Vb]
 |.lk a b,x,cs,h=>by obtain⟨p,rfl⟩:=XF.length h;simp [Vb]
 |.pn t,x,cs,h=>by obtain⟨a,rfl⟩:=YN.length h;simp [Vb]
mutual
theorem CV.oneCell{w:World}{g:Gh} :∀(a:AV) (cs:List Value),a≠ .junk->CV w g a cs->(∀t,a.fits t=Uc->∀v∈cs,v.oneCell' =Uc)
 |.d t x,cs,_,h,_,_=>Rd.oneCell t x cs (by simpa only[CV] using h)
 |.junk,_,h,_,_,_=>absurd rfl h
 |.tup _,_,_,h,_,_=>by simp [CV]at h
 |.agg l,cs,_,h,t,r=>Z9.oneCell l cs (by simpa only[CV] using h) t (by simpa only[AV.fits] using r)
 |.dp t x,cs,_,h,_,_=>by simp only[CV]at h;obtain⟨b,off,c,e,_⟩:=h;rw[e];simp [Vb]
 |.ptr id p,cs,_,h,_,_=>by simp only[CV]at h;obtain⟨_,o,t,b,_,_,j⟩:=h;rw[j];simp [Vb]
 |.vw id,cs,_,h,t,r=>by simp only[CV]at h;rw[h.2.1];intro v q;simp at q;rw[q];exact h.2.2
 |.vs id lo n,cs,_,h,_,_=>by
  simp only[CV]at h
  rcases h.2 with ⟨_,_,_,h⟩|⟨b,len,cap,m,_,_,_,_,h⟩<;>rw[h]<;>simp [Vb]
 |.vp id i p,cs,_,h,_,_=>by simp only[CV]at h;obtain⟨_,o,t,b,_,_,j⟩:=h;rw[j];simp [Vb]
 |.op id i,cs,_,h,_,_=>by simp only[CV]at h;obtain⟨_,b,off,len,cap,_,j⟩:=h;rw[j];simp [Vb]
 |.mp id,cs,_,h,_,_=>by simp only[CV]at h;obtain⟨_,b,_,j⟩:=h;rw[j];simp [Vb]
 |.fn f l,cs,_,h,_,_=>by simp only[CV]at h;obtain⟨D,e,_⟩:=h;rw[e];simp [Zsy]
 |.nilr p,cs,_,h,_,_=>by
  have h:=ZbU h;rcases h with h|h|h<;>rw[h]<;>simp [Vb]
 |.nils,cs,_,h,_,_=>by simp only[CV]at h;rw[h];simp [Vb]
 |.jk n,cs,_,h,_,_=>by simp only[CV]at h;exact h.2
 |.nw id ver C k,cs,_,h,_,_=>by simp only[CV]at h;obtain⟨_,_,v,e,s,_⟩:=h;rw[e];intro u y;simp at y;rw[y];exact s
 |.np id ver C k i p,cs,_,h,_,_=>by simp only[CV]at h;obtain⟨_,_,a,e,_⟩:=h;rw[e];simp [Vb]
theorem Z9.oneCell{w:World}{g:Gh} :∀(l:Zo) (cs:List Value),Z9 w g l cs->(∀t,l.fits t=Uc->∀v∈cs,v.oneCell' =Uc)
 |.nil,cs,h,_,_=>by simp only[Z9]at h;rw[h];simp
 |.cons a l,cs,h,t,r=>by
  simp only[Z9]at h;obtain⟨z,A,e,s,j⟩:=h
  cases t<;>simp only[Zo.fits,Va,Vf]at r
  rw[e];intro v q;rcases Vga.1 q with q|q
  ·refine CV.oneCell a z ?_ s _ r.1 v q;rintro rfl;simp [AV.fits]at r
  ·exact Z9.oneCell l A j _ r.2 v q
end
mutual
theorem CV.length{w:World}{g:Gh} :∀(a:AV) (t:Ty) (cs:List Value),a.fits t=Uc->CV w g a cs->cs.length=t.size
 |.d k x,t,cs,b,h=>by
  simp only[AV.fits,Kj]at b;subst b
  exact Rd.length _ _ _ (by simpa only[CV] using h)
 |.junk,_,_,b,_=>by simp [AV.fits]at b
 |.tup _,_,_,b,_=>by simp [AV.fits]at b
 |.agg l,t,cs,b,h=>Z9.length l t cs (by simpa only[AV.fits] using b) (by simpa only[CV] using h)
 |.jk n,t,cs,b,h=>by
  simp only[AV.fits,Kj]at b
  simp only[CV]at h;rw[h.1,b]
 |.dp _ _,t,cs,b,h=>by
  cases t<;>simp [AV.fits]at b
  all_goals (simp only[CV]at h;obtain⟨_,_,_,c,_⟩:=h;rw[c];rfl)
 |.ptr _ _,t,cs,b,h=>by
  cases t<;>simp [AV.fits]at b
  all_goals (simp only[CV]at h;obtain⟨_,_,_,_,_,_,c⟩:=h;rw[c];rfl)
 |.vp _ _ _,t,cs,b,h=>by
  cases t<;>simp [AV.fits]at b
  simp only[CV]at h;obtain⟨_,_,_,_,_,_,c⟩:=h;rw[c];rfl
 |.op _ _,t,cs,b,h=>by simp [AV.fits]at b
 |.mp _,t,cs,b,h=>by
  cases t<;>simp [AV.fits]at b
  simp only[CV]at h;obtain⟨_,_,_,c⟩:=h;rw[c];rfl
 |.fn _ _,t,cs,b,h=>by
  cases t<;>simp [AV.fits]at b
  simp only[CV]at h;obtain⟨_,c,_⟩:=h;rw[c];rfl
 |.nilr p,t,cs,b,h=>by
  cases t<;>simp [AV.fits]at b
  all_goals (have h:=ZbU h;rcases h with h|h|h<;>rw[h]<;>rfl)
 |.vw _,t,cs,b,h=>by
  cases t<;>simp [AV.fits]at b
  simp only[CV]at h;rw[h.2.1];rfl
 |.vs _ _ _,t,cs,b,h=>by
  cases t<;>simp [AV.fits]at b
  simp only[CV]at h;rcases h.2 with ⟨_,_,_,c⟩|⟨_,_,_,_,_,_,_,_,c⟩<;>rw[c]<;>rfl
 |.nils,t,cs,b,h=>by
  cases t<;>simp [AV.fits]at b
  simp only[CV]at h;rw[h];rfl
 |.nw _ _ _ _,t,cs,b,h=>by
  cases t<;>simp [AV.fits]at b
  simp only[CV]at h;obtain⟨_,_,v,c,_⟩:=h;rw[c];rfl
 |.np _ _ _ _ _ _,t,cs,b,h=>by
  cases t<;>simp [AV.fits]at b
  simp only[CV]at h;obtain⟨_,_,a,c,_⟩:=h;rw[c];rfl
theorem Z9.length{w:World}{g:Gh} :∀(l:Zo) (t:Ty) (cs:List Value),l.fits t=Uc->Z9 w g l cs->cs.length=t.size
 |.nil,t,cs,b,h=>by
  cases t<;>simp [Zo.fits]at b
  simp only[Z9]at h;rw[h];rfl
 |.cons a l,t,cs,b,h=>by
  cases t<;>simp only[Zo.fits,Va,Vf]at b
  simp only[Z9]at h;obtain⟨e,f,c,i,j⟩:=h;rw[c,Vi,CV.length a _ e b.1 i,Z9.length l _ f b.2 j];rfl
end
theorem KE{t b:Ty}{x:El t}{y:El b}(h:Kr t b x=Ua y):∃e:t=b,y=e▸x:=by
 unfold Kr at h
 grind
theorem Zel{t:Ty}{x y:El t}(h:Kr t t x=Ua y):y=x:=by obtain⟨e,h⟩:=KE h;omega
theorem RO{css:List (List Value)}{i:Nat}{c:List Value}(h:css[i]? =Ua c)(n:Nat)(e:∀c∈css,c.length=n):
 css.flatten=(css.take i).flatten++c++(css.drop (i+1)).flatten/\(css.take i).flatten.length=i*n/\
 ∀c',(css.set i c').flatten=(css.take i).flatten++c' ++(css.drop (i+1)).flatten:=by
 obtain⟨b,rfl⟩:=Vaa.1 h;refine⟨?_,?_,fun c' =>?_⟩
 ·rw[<-List.flatten_append_singleton_flatten b]
 ·rw[JM fun c d=>e c (List.mem_of_mem_take d),List.length_take,Nat.min_eq_left (Nat.le_of_lt b)]
 ·rw[List.set_eq_take_append_cons_drop,Zv b];simp
where
 List.flatten_append_singleton_flatten {css:List (List Value)}{i:Nat} (b:i<css.length):css.flatten=(css.take i).flatten++css[i]++(css.drop (i+1)).flatten:=by
  have f:css=css.take i++css.drop i:=by simp
  have j:css.drop i=css[i]::css.drop (i+1):=List.drop_eq_getElem_cons b
  grind
def At(t:Ty)(p:List Nat)(c:Ty)(cs b:List Value):Prop:= ∃o pre post,ZW t p=Ua (o,c)/\cs=pre++b++post/\pre.length=o
theorem ZeW{w:World}{I:Nat->Prop}{H:AH} :∀(p:List Nat) (t:Ty) (x:El t) (l l' :List Nat) (r:DV) (cs:List Value),(Yv t x p).run H l=Ua (r,l')->Rd w I t x cs->
 l' =l/\ ∃j,At t p r.1 cs j/\Rd w I r.1 r.2 j:=by
 intro p t
 induction t generalizing p with
 |prod a b D G=>
  intro x l l' r cs h s;obtain⟨j,A,C,m,k⟩:=s
  match p with
  |[]=>
   simp only[Yv,Zu.run,ZB,Vd]at h;obtain⟨rfl,rfl⟩:=h
   exact⟨rfl,cs,⟨0,[],[],rfl,by simp,rfl⟩,j,A,C,m,k⟩
  |0::p=>
   simp only[Yv]at h;obtain⟨e,d,⟨o,pre,post,u,J,z⟩,q⟩:=D p x.1 l l' r j h m
   exact⟨e,d,⟨o,pre,post++A,by assumption,by grind,z⟩,q⟩
  |(n+1)::p=>
   simp only[Yv]at h;obtain⟨e,d,⟨o,pre,post,u,J,z⟩,q⟩:=G (n::p) x.2 l l' r A h k;refine⟨e,d,⟨o+a.size,j++pre,post,by simp [ZW,u],by grind,?_⟩,q⟩
   rw[Vi,Rd.length a _ _ m,z];omega
 |arr n t O=>
  intro x l l' r cs h s;obtain⟨C,f,m,k⟩:=s
  match p with
  |[]=>
   simp only[Yv,Zu.run,ZB,Vd]at h;obtain⟨rfl,rfl⟩:=h
   exact⟨rfl,cs,⟨0,[],[],rfl,by simp,rfl⟩,C,f,m,k⟩
  |i::p=>
   simp only[Yv,Zu.run]at h
   cases K:(x:List (El t))[i]? with
   |none=>grind
   |some y=>
    rw[K]at h;simp only[Za]at h;obtain⟨c,L,N⟩:=k.get i y K;obtain⟨e,d,⟨o,pre,post,u,J,z⟩,q⟩:=O p y l l' r c h N;obtain⟨Q,R,_⟩:=RO L t.size (Rd.all_length k)
    have M:i<n:=by
     grind
    refine⟨e,d,⟨o+i*t.size,(f.take i).flatten++pre,post++(f.drop (i+1)).flatten,by simp [ZW,M,u],by grind,?_⟩,q⟩
    grind
 |_=>
  intro x l l' r cs h s
  match p with
  |[]=>
   simp only[Yv,Zu.run,ZB,Vd]at h;obtain⟨rfl,rfl⟩:=h
   exact⟨rfl,cs,⟨0,[],[],rfl,by simp,rfl⟩,s⟩
  |_::_=>simp [Yv,Zu.run]at h
theorem ZfD{w:World}{I:Nat->Prop}{H:AH} :∀(p:List Nat) (t:Ty) (x:El t) (l l' :List Nat) (y:DV) (z:El t) (cs d:List Value),(Xk t x p y).run H l=Ua (z,l')->Rd w I t x cs->Rd w I y.1 y.2 d->
 l' =l/\ ∃o pre A post,ZW t p=Ua (o,y.1)/\cs=pre++A++post/\pre.length=o/\A.length=d.length/\Rd w I t z (pre++d++post):=by
 intro p t
 induction t generalizing p with
 |prod a b O Q=>
  intro x l l' y z cs d h J r;obtain⟨A,M,N,C,m⟩:=J
  match p with
  |[]=>
   simp only[Xk,Zu.run]at h
   cases f:Kr y.1 (.prod a b) y.2 with
   |none=>grind
   |some X=>
    rw[f]at h;simp only[Za,ZB,Vd]at h;obtain⟨rfl,rfl⟩:=h;obtain⟨V,W⟩:=y;obtain⟨e,j⟩:=KE f;simp only at e;subst e;have j:=j;subst j;refine⟨rfl,0,[],cs,[],rfl,by simp,rfl,?_,by grind⟩
    rw[Rd.length _ _ _ r,N,Vi,Rd.length a _ _ C,Rd.length b _ _ m];rfl
  |0::p=>
   simp only[Xk,Zu.run_bind]at h
   cases s:(Xk a x.1 p y).run H l with
   |none=>grind
   |some q=>
    rw[s]at h;simp only[Za,Zu.run,ZB,Vd]at h;obtain⟨rfl,rfl⟩:=h;obtain⟨e,o,pre,k,post,K,S,L,D,G⟩:=O p x.1 l q.2 y q.1 A d s C r
    exact⟨e,o,pre,k,post++M,by assumption,by grind,L,D,pre++d++post,M,by simp,G,m⟩
  |(n+1)::p=>
   simp only[Xk,Zu.run_bind]at h
   cases s:(Xk b x.2 (n::p) y).run H l with
   |none=>grind
   |some q=>
    rw[s]at h;simp only[Za,Zu.run,ZB,Vd]at h;obtain⟨rfl,rfl⟩:=h;obtain⟨e,o,pre,k,post,K,S,L,D,G⟩:=Q (n::p) x.2 l q.2 y q.1 M d s m r;refine⟨e,o+a.size,A++pre,k,post,by simp [ZW,K],by grind,?_,D,A,pre++d++post,by simp,C,G⟩
    rw[Vi,Rd.length a _ _ C,L];omega
 |arr n t ih=>
  intro x l l' y z cs d h J r;obtain⟨N,u,C,m⟩:=J
  match p with
  |[]=>
   simp only[Xk,Zu.run]at h
   cases f:Kr y.1 (.arr n t) y.2 with
   |none=>grind
   |some X=>
    rw[f]at h;simp only[Za,ZB,Vd]at h;obtain⟨rfl,rfl⟩:=h;obtain⟨V,W⟩:=y;obtain⟨e,j⟩:=KE f;simp only at e;subst e;have j:=j;subst j;refine⟨rfl,0,[],cs,[],rfl,by simp,rfl,?_,by grind⟩
    rw[Rd.length _ _ _ r,C,JM (Rd.all_length m), <-m.length,N];rfl
  |i::p=>
   simp only[Xk,Zu.run]at h
   cases U:(x:List (El t))[i]? with
   |none=>grind
   |some R=>
    rw[U]at h;simp only[Za,Zu.run_bind]at h
    cases s:(Xk t R p y).run H l with
    |none=>grind
    |some q=>
     rw[s]at h;simp only[Za,Zu.run,ZB,Vd]at h;obtain⟨rfl,rfl⟩:=h;obtain⟨c,f,Z⟩:=m.get i R U;obtain⟨e,o,pre,k,post,K,S,L,D,G⟩:=ih p R l q.2 y q.1 c d s Z r;obtain⟨s1,s2,s3⟩:=RO f t.size (Rd.all_length m)
     have Y:i<n:=by
      grind
     refine⟨e,o+i*t.size,(u.take i).flatten++pre,k,post++(u.drop (i+1)).flatten,by simp [ZW,Y,K],by grind,?_,D,?_,u.set i (pre++d++post),?_,m.set i G⟩
     all_goals grind
 |_=>
  intro x l l' y z cs d h J r
  match p with
  |[]=>
   simp only[Xk,Zu.run]at h
   cases f:Kr y.1 _ y.2 with
   |none=>rw[f]at h;grind
   |some X=>
    rw[f]at h;simp only[Za]at h;obtain⟨rfl,rfl⟩:=Vk (Ky h);obtain⟨V,W⟩:=y;obtain⟨e,j⟩:=KE f;simp only at e;subst e;have j:=j;subst j;refine⟨rfl,0,[],cs,[],rfl,by simp,rfl,?_,by grind⟩
    rw[Rd.length _ _ _ r,Rd.length _ _ _ J]
  |_::_=>simp [Xk,Zu.run]at h
theorem ZsO{w:World}{g:Gh}{H:AH} :∀(l:Zo) (t:Ty) (n:Nat) (p:List Nat) (k b:List Nat) (v:AV) (cs:List Value),
 (∀(a:AV) (t:Ty) (p k b:List Nat) (v:AV) (cs:List Value),sizeOf a<sizeOf l->(Ge a p).run H k=Ua (v,b)->a.fits t=Uc->CV w g a cs->b=k/\ ∃c f,At t p c cs f/\v.fits c=Uc/\CV w g v f)->
 (ZbL l n p).run H k=Ua (v,b)->l.fits t=Uc->Z9 w g l cs->b=k/\ ∃c f,At t (n::p) c cs f/\v.fits c=Uc/\CV w g v f:=by
 intro l
 induction l using Zo.rec (motive_1:=fun _=>True) with
 |nil=>intro t n p k b v cs _ h;simp [ZbL,Zu.run]at h
 |cons a l _ D=>
  intro t n p k b v cs i h j y
  cases t<;>simp only[Zo.fits,Va,Vf]at j
  rename_i z G;simp only[Z9]at y;obtain⟨f,s,I,u,A⟩:=y
  cases n with
  |zero=>
   simp only[ZbL]at h;obtain⟨e,c,d,⟨o,pre,post,x,C,m⟩,q,r⟩:=i a z p k b v f (by grind) h j.1 u
   exact⟨e,c,d,⟨o,pre,post++s,by assumption,by grind,m⟩,q,r⟩
  |succ n=>
   simp only[ZbL]at h;obtain⟨e,c,d,⟨o,pre,post,x,C,m⟩,q,r⟩:=D G n p k b v s (by grind) h j.2 A;refine⟨e,c,d,⟨o+z.size,f++pre,post,by simp [ZW,x],by grind,?_⟩,q,r⟩
   rw[Vi,CV.length a _ _ j.1 u,m];omega
 |_=>trivial
theorem ZsN{w:World}{g:Gh}{H:AH}(N:Nat):∀(a:AV) (_:sizeOf a<N) (t:Ty) (p k c:List Nat) (v:AV) (cs:List Value),(Ge a p).run H k=Ua (v,c)->a.fits t=Uc->CV w g a cs->
 c=k/\ ∃j b,At t p j cs b/\v.fits j=Uc/\CV w g v b:=by
 induction N with
 |zero=>omega
 |succ N u=>
 intro a z t p k c v cs h f s
 match p with
 |[]=>
  have:Ge a []=.ret a:=by cases a<;>rfl
  rw[this]at h;obtain⟨rfl,rfl⟩:=Vk (Ky h)
  exact⟨rfl,t,cs,⟨0,[],[],by cases t<;>rfl,by simp,rfl⟩,f,s⟩
 |n::p=>
  cases a with
  |d m x=>
   simp only[AV.fits,Kj]at f;subst f;simp only[Ge,Zu.run_bind]at h
   cases i:(Yv m x (n::p)).run H k with
   |none=>grind
   |some q=>
    rw[i]at h;simp only[Za,Zu.run]at h;obtain⟨rfl,rfl⟩:=Vk (Ky h);obtain⟨e,b,r,y⟩:=ZeW (n::p) m x k q.2 q.1 cs i (by assumption)
    exact⟨e,q.1.1,b,r,by simp [AV.fits],by assumption⟩
  |agg l=>
   simp only[Ge]at h
   exact ZsO l t n p k c v cs (by grind) h (by assumption) (by assumption)
  |_=>simp [Ge,Zu.run]at h
theorem ZeV{w:World}{g:Gh}{H:AH}{a:AV}{t:Ty}{p k b:List Nat}{v:AV}{cs:List Value}(h:(Ge a p).run H k=Ua (v,b))(f:a.fits t=Uc)(e:CV w g a cs):
 b=k/\ ∃d c,At t p d cs c/\v.fits d=Uc/\CV w g v c:=ZsN (sizeOf a+1) a (by omega) t p k b v cs h f e
theorem ZkQ{w:World}{g:Gh} :∀(t:Ty) (x:El t) (cs:List Value),(Yr t x).fits t=Uc->Rd w g.I t x cs->Z9 w g (Yr t x) cs:=by
 intro t
 induction t with
 |prod a b _ i=>
  intro x cs c h;obtain⟨d,e,f,j,k⟩:=h;simp only[Yr,Zo.fits,Va]at c;simp only[Yr,Z9]
  exact⟨d,e,f,by assumption,by grind⟩
 |unit=>intro x cs _ h;assumption
 |_=>intro x cs c;simp [Yr,Zo.fits]at c
structure Put (t:Ty) (p:List Nat) (cs d:List Value) (o:Nat) (pre c1 post:List Value) (t1:Ty):Prop where
 off:ZW t p=Ua (o,t1)
 cs:cs=pre++c1++post
 len:pre.length=o
 eq:c1.length=d.length
theorem Znq{w:World}{g:Gh}{H:AH} :∀(l:Zo) (t:Ty) (n:Nat) (p k z:List Nat) (v:AV) (m:Zo) (cs d:List Value),
 (Hq t l n p v).run H k=Ua (m,z)->l.fits t=Uc->Z9 w g l cs->CV w g v d->z=k/\ ∃o pre c post f,Put t (n::p) cs d o pre c post f/\m.fits t=Uc/\Z9 w g m (pre++d++post):=by
 intro l
 induction l using Zo.rec (motive_1:=fun _=>True) with
 |nil=>intro t n p k z v m cs d h;cases t<;>simp [Hq,Zu.run]at h
 |cons a l _ U=>
  intro t n p k z v m cs d h b N I
  cases t<;>simp only[Zo.fits,Va,Vf]at b
  rename_i i O;simp only[Z9]at N;obtain⟨c,j,V,A,C⟩:=N
  cases n with
  |zero=>
   match p with
   |[]=>
    simp only[Hq]at h
    cases u:v.fits i with
    |false=>rw[u]at h;simp [Zu.run]at h
    |true=>
     rw[u]at h;obtain⟨rfl,rfl⟩:=Vk (Ky (by assumption))
     refine⟨rfl,0,[],c,j,i,⟨by cases i<;>rfl,by grind,rfl,?_⟩,by simp [Zo.fits,u,b.2],d,j,by simp,I,C⟩
     rw[CV.length a i c b.1 A,CV.length v i d u I]
   |q::p=>
    cases a with
    |d K x=>
     have S:K=i:=by simpa [AV.fits] using b.1
     subst S
     cases v with
     |d f y=>
      simp only[Hq,Zu.run_bind]at h
      cases s:(Xk K x (q::p) ⟨f,y⟩).run H k with
      |none=>grind
      |some r=>
       rw[s]at h;obtain⟨rfl,rfl⟩:=Vk (Ky (by assumption));obtain⟨e,o,pre,J,post,L,Q,D,G,M⟩:=ZfD (q::p) K x k r.2 ⟨f,y⟩ r.1 c d s (by assumption) (by assumption)
       exact⟨e,o,pre,J,post++j,f,⟨by assumption,by grind,D,G⟩,by simp [Zo.fits,AV.fits,b.2],pre++d++post,j,by simp,by assumption,C⟩
     |_=>simp [Hq,Zu.run]at h
    |_=>simp [Hq,Zu.run]at h
  |succ n=>
   simp only[Hq,Zu.run_bind]at h
   cases s:(Hq O l n p v).run H k with
   |none=>grind
   |some r=>
    rw[s]at h;obtain⟨rfl,rfl⟩:=Vk (Ky (by assumption));obtain⟨e,o,pre,J,post,f,⟨L,Q,D,G⟩,M,R⟩:=U O n p k r.2 v r.1 j d s b.2 C I;refine⟨e,o+i.size,c++pre,J,post,f,⟨by simp [ZW,L],by grind,?_,G⟩,by simp [Zo.fits,b.1,M],c,pre++d++post,by simp,A,R⟩
    rw[Vi,CV.length a _ _ b.1 A,D];omega
 |_=>trivial
theorem Wg(t:Ty):ZW t []=Ua (0,t):=by cases t<;>rfl
theorem Znp{w:World}{g:Gh}{H:AH}{t:Ty}{c:AV}{p k A:List Nat}{v c' :AV}{cs d:List Value}(h:(D9 t c p v).run H k=Ua (c',A))(O:c.fits t=Uc)(R:CV w g c cs)(D:CV w g v d)
 (m:cs.length=t.size):A=k/\ ∃o pre C post f,Put t p cs d o pre C post f/\c'.fits t=Uc/\CV w g c' (pre++d++post):=by
 match p with
 |[]=>
  simp only[D9]at h
  cases z:v.fits t with
  |false=>rw[z]at h;simp [Zu.run]at h
  |true=>
   rw[z]at h;obtain⟨rfl,rfl⟩:=Vk (Ky (by assumption));refine⟨rfl,0,[],cs,[],t,⟨Wg t,by simp,rfl,?_⟩,z,by grind⟩
   rw[m,CV.length v t d z D]
 |n::q=>
  cases c with
  |agg l=>
   simp only[D9,Zu.run_bind]at h
   cases i:(Hq t l n q v).run H k with
   |none=>grind
   |some r=>
    rw[i]at h;obtain⟨rfl,rfl⟩:=Vk (Ky (by assumption));obtain⟨e,o,pre,s,post,f,j,G,N⟩:=Znq l t n q k r.2 v r.1 cs d i (by assumption) (by assumption) D
    exact⟨e,o,pre,s,post,f,j,by assumption,by assumption⟩
  |d b x=>
   have Q:b=t:=by simpa [AV.fits] using O
   subst Q;have J:Rd w g.I b x cs:=by assumption
   have other:(bif (Yr b x).fits b then(Hq b (Yr b x) n q v).bind fun l=>.ret (.agg l) else Zu.fail:Zu AV).run H k=Ua (c',A)->
    A=k/\ ∃o pre C post f,Put b (n::q) cs d o pre C post f/\c'.fits b=Uc/\CV w g c' (pre++d++post):=by
    intro h
    cases u:(Yr b x).fits b with
    |false=>rw[u]at h;simp [Zu.run]at h
    |true=>
     rw[u]at h;simp only[Ze,Zu.run_bind]at h
     cases i:(Hq b (Yr b x) n q v).run H k with
     |none=>grind
     |some r=>
      rw[i]at h;obtain⟨rfl,rfl⟩:=Vk (Ky (by assumption));obtain⟨e,o,pre,s,post,f,j,G,N⟩:=Znq _ b n q k r.2 v r.1 cs d i u (ZkQ b x cs u J) D;exact⟨e,o,pre,s,post,f,j,by assumption,by assumption⟩
   cases v with
   |d f y=>
    simp only[D9,Zu.run_bind]at h
    cases i:(Xk b x (n::q) ⟨f,y⟩).run H k with
    |none=>grind
    |some r=>
     rw[i]at h;obtain⟨rfl,rfl⟩:=Vk (Ky (by assumption));obtain⟨e,o,pre,s,post,j,K,L,M,G⟩:=ZfD (n::q) b x k r.2 ⟨f,y⟩ r.1 cs d i J (by assumption)
     exact⟨e,o,pre,s,post,f,⟨j,K,L,M⟩,by assumption,by assumption⟩
   |_=>exact other h
  |_=>simp [D9,Zu.run]at h
end Tr
end
section
namespace Tr
open Go
def ZfZ(f:List Value->Bool)(size:Nat):Nat->List Value->Bool
 |0,cs=>cs.isEmpty
 |n+1,cs=>f (cs.take size) &&ZfZ f size n (cs.drop size)
def Y5:Ty->List Value->Bool
 |.int k,[.int c n]=>k==c&&n==0
 |.bool,[.bool b]=> !b
 |.str,[.string s]=>s.data.toList.isEmpty
 |.sl _,[.slice Ub 0 0]=>Uc
 |.pt _,[.pointer Ub]=>Uc
 |.lk _ _,[.pointer Ub]=>Uc
 |.pn _,[.pointer Ub]=>Uc
 |.unit,[]=>Uc
 |.prod a b,cs=>Y5 a (cs.take a.size) &&Y5 b (cs.drop a.size)
 |.arr n t,cs=>ZfZ (Y5 t) t.size n cs
 |_,_=>Ud
def ZhK:List Value->Bool
 |[.pointer Ub]=>Uc
 |[.nilFunc]=>Uc
 |[.map Ub]=>Uc
 |_=>Ud
def ZhL:List Value->Bool
 |[.slice Ub 0 0]=>Uc
 |_=>Ud
def Rl:Ty->List Value->Bool
 |.prod a b,cs=>(bif a.data then Y5 a (cs.take a.size) else(match a with
   |.ref=>ZhK (cs.take 1)
   |.sl _=>ZhL (cs.take 1)
   |a=>(cs.take a.size).length==a.size&& (cs.take a.size).all Vb)) &&Rl b (cs.drop a.size)
 |.unit,cs=>cs.isEmpty
 |_,_=>Ud
def G1(t:Ty)(cs:List Value):Bool:=
 bif t.data then Y5 t cs else match t with
  |.ref=>ZhK cs
  |.sl _=>ZhL cs
  |.prod a b=>Rl (.prod a b) cs
  |t=>cs.length==t.size&&cs.all Vb
theorem ZdM{w:World}{I:Nat->Prop} :∀(t:Ty) (cs:List Value),Y5 t cs=Uc->Rd w I t (zeroEl t) cs:=by
 intro t
 induction t with
 |int k=>
  intro cs h
  match cs,h with
  |[.int p n],h=>
   simp only[Y5,Va,Kj]at h
   obtain⟨rfl,rfl⟩:=h;rfl
 |bool=>
  intro cs h
  match cs,h with
  |[.bool b],h=>simp only[Y5,Vba]at h;subst h;rfl
 |str=>
  intro cs h
  match cs,h with
  |[.string s],h=>
   obtain⟨⟨l⟩⟩:=s;simp only[Y5,Vda]at h
   subst h;rfl
 |sl t _=>
  intro cs h
  match cs,h with
  |[.slice Ub 0 0],_=>exact⟨Ub,0,[],rfl,trivial,fun h=>absurd rfl h,Vl _⟩
 |unit=>
  intro cs h
  match cs,h with
  |[],_=>rfl
 |prod a b d e=>
  intro cs h;simp only[Y5,Va]at h
  exact⟨_,_,by simp,d _ h.1,e _ h.2⟩
 |arr n t m=>
  intro cs h;simp only[Y5]at h;refine⟨by simp [zeroEl],?_⟩
  induction n generalizing cs with
  |zero=>
   simp only[ZfZ,Vda]at h;subst h
   exact⟨[],rfl,by simp [zeroEl,Fa]⟩
  |succ n f=>
   simp only[ZfZ,Va]at h;obtain⟨c,j,i⟩:=f _ h.2;refine⟨cs.take t.size::c,?_,?_⟩
   ·rw[Vna, <-j,Vha]
   ·simp only[zeroEl,List.replicate_succ]at i⊢
    exact⟨m _ h.1,i⟩
 |ref=>
  intro cs h
  simp [Y5]at h
 |pt t _=>
  intro cs h
  match cs,h with
  |[.pointer Ub],_=>rfl
 |lk a b _ _=>
  intro cs h
  match cs,h with
  |[.pointer Ub],_=>rfl
 |pn t _=>
  intro cs h
  match cs,h with
  |[.pointer Ub],_=>rfl
theorem Zlr{w:World}{g:Gh}{cs:List Value}(h:ZhK cs=Uc):CV w g (.nilr Ud) cs:=by
 simp only[CV]
 match cs,h with
 |[.pointer Ub],_=>simp
 |[.nilFunc],_=>simp
 |[.map Ub],_=>simp
theorem Ze1{w:World}{g:Gh}{cs:List Value}(h:ZhL cs=Uc):CV w g .nils cs:=by
 simp only[CV]
 match cs,h with
 |[.slice Ub 0 0],_=>rfl
theorem Zoq{w:World}{g:Gh}{t:Ty}{cs:List Value}(h:Y5 (.sl t) cs=Uc):CV w g .nils cs:=by
 simp only[CV]
 match cs,h with
 |[.slice Ub 0 0],_=>rfl
theorem Zf0{w:World}{g:Gh} :∀(t:Ty) (cs:List Value),Rl t cs=Uc->Z9 w g (G0 Ud t) cs/\(G0 Ud t).fits t=true:=by
 intro t
 induction t with
 |prod a b _ f=>
  intro cs h;simp only[Rl,Va]at h;obtain⟨j,k⟩:=f _ h.2;simp only[G0,Z9,Zo.fits,Va];have c:=h.1
  have key:CV w g (Ht Ud a) (cs.take a.size)/\(Ht Ud a).fits a=true:=by
   cases e:a.isSl with
   |true=>
    obtain⟨t,rfl⟩:∃t,a=.sl t:=by cases a<;>simp [Ty.isSl]at e;simp
    have i:Ht Ud (.sl t)=.nils:=by simp [Ht,Ty.isSl,Zf2]
    rw[i];refine⟨?_,rfl⟩
    cases d:(Ty.sl t).data with
    |true=>rw[d]at c;simp only[Ze]at c;exact Zoq c
    |false=>rw[d]at c;simp only[Zd]at c;exact Ze1 c
   |false=>
   unfold Ht
   cases d:a.data with
   |true=>
    rw[d]at c;simp only[e,Vua,Bool.or_true,Vwa,Ze]at c⊢
    exact⟨by simpa only[CV] using ZdM a _ c,by simp [AV.fits]⟩
   |false=>
    rw[d]at c;simp only[Vva,Zd]at c⊢
    cases a with
    |ref=>exact⟨Zlr c,rfl⟩
    |sl t=>exact⟨Ze1 c,rfl⟩
    |_=>
     simp only[Va,Kj,Voa]at c;exact⟨by assumption,by simp [Zf2,AV.fits]⟩
  exact⟨⟨_,_,by simp,key.1,j⟩,key.2,k⟩
 |unit=>
  intro cs h;simp only[Rl,Vda]at h;subst h
  exact⟨rfl,rfl⟩
 |_=>intro cs h;simp [Rl]at h
theorem Zf1{w:World}{g:Gh}{t:Ty}{cs:List Value}(h:G1 t cs=Uc):CV w g (XV t) cs/\(XV t).fits t=true:=by
 unfold G1 at h
 cases d:t.isSl with
 |true=>
  cases t<;>simp [Ty.isSl]at d
  rename_i t;have e:XV (.sl t)=.nils:=by simp [XV,Ty.isSl]
  rw[e];refine⟨?_,rfl⟩
  cases c:(Ty.sl t).data with
  |true=>rw[c]at h;simp only[Ze]at h;exact Zoq h
  |false=>rw[c]at h;simp only[Zd]at h;exact Ze1 h
 |false=>
 unfold XV
 cases c:t.data with
 |true=>
  rw[c]at h;simp only[d,Vua,Vwa,Ze]at h⊢
  exact⟨by simpa only[CV] using ZdM t _ h,by simp [AV.fits]⟩
 |false=>
  rw[c]at h;simp only[Vva,Zd]at h⊢
  cases t with
  |ref=>exact⟨Zlr h,rfl⟩
  |sl t=>exact⟨Ze1 h,rfl⟩
  |prod a b=>
   obtain⟨f,i⟩:=Zf0 (w:=w) (g:=g) _ _ h
   exact⟨by assumption,by assumption⟩
  |_=>
   simp only[Va,Kj,Voa]at h;exact⟨by assumption,by simp [AV.fits]⟩
theorem ZwV(t:Ty)(h:t.data=Uc\/(match t with|.arr _ _=>False|_=>True)):(XV t).isAgg=t.agg:=by
 unfold XV
 cases b:t.isSl with
 |true=>cases t<;>simp [Ty.isSl]at b;simp [AV.isAgg,Ty.agg]
 |false=>
 cases c:t.data with
 |true=>rfl
 |false=>
  rw[c]at h
  cases t<;>simp_all [AV.isAgg,Ty.agg,Ty.data]
theorem ZwW{w:World}{g:Gh}{t:Ty}{z:Value}(i:t.data=Uc)(h:Ko w g (XV t) z):Ko w g (.d t (zeroEl t)) z:=by
 cases b:t.isSl with
 |false=>
  have c:XV t=.d t (zeroEl t):=by simp [XV,i,b]
  grind
 |true=>
  cases t<;>simp [Ty.isSl]at b
  rename_i t;have c:XV (.sl t)=.nils:=by simp [XV,Ty.isSl]
  rw[c]at h;obtain⟨e,f⟩:=h;simp only[CV]at e;refine⟨?_,.inr ?_⟩
  ·simp only[CV];rw[e];exact⟨Ub,0,[],rfl,trivial,fun h=>absurd rfl h,Vl _⟩
  ·exact f.resolve_left (by simp)
def Ty.chain:Ty->Bool
 |.prod _ b=>b.chain
 |.unit=>Uc
 |_=>Ud
def Kd(θ:TypeId->Option Ty)(t:Ty)(d:Option TypeDesc):Bool:=
 match t,d with
 |.int k,Ua (.int h)=>k==h
 |.bool,Ua .bool=>Uc
 |.str,Ua .string=>Uc
 |.sl e,Ua (.slice E)=>θ E==Ua e
 |.arr n e,Ua (.array m E)=>n==m&&θ E==Ua e
 |.unit,Ua (.struct c)=>c.isEmpty
 |.prod a b,Ua (.struct c)=>(Vp c.size).all (fun f=>match c[f]? with
   |some fd=>match ZW (.prod a b) [f] with
    |some (o,i)=>fd.offset==o&&θ fd.type==some i&&fd.name != "_"
    |none=>Ud
   |none=>Uc) && (ZW (.prod a b) [c.size]).isNone&&b.chain
 |.pt e,Ua (.pointer E)=>θ E==Ua e
 |.pn e,Ua (.pointer E)=>θ E==Ua e
 |.lk a b,Ua (.pointer E)=>θ E==Ua (ZaQ a b)
 |.ref,Ua (.pointer _)=>Uc
 |.ref,Ua (.func _ _ _)=>Uc
 |.ref,Ua (.map _ _)=>Uc
 |.ref,Ua (.interface _)=>Uc
 |_,_=>Ud
def Znu(P:Program)(T:TypeId):Bool:=match P.underlying T with
 |some (.slice b)=>(match P.info? b with
  |some i=>Vw i.bytes 256
  |none=>Ud)
 |_=>Uc
def ZiK(P:Program)(θ:TypeId->Option Ty)(T:TypeId)(t:Ty):Bool:=
 match P.info? T with
 |some i=>Znu P T&&i.size==t.size&&Vw i.bytes 4096&& (match i.zero with
   |some z=>G1 t z.cells.toList&&Kf z==t.agg&& (t.data|| (match t with|.arr _ _=>Ud|_=>Uc))
   |none=>Ud) &&Kd θ t (P.underlying T) && !P.stoodInHeld T&& !P.eqGuardType P.depth T
 |none=>Ud
structure Ji (P:Program) (θ:TypeId->Option Ty) (T:TypeId) (t:Ty):Prop where
 info:∃i z,P.info? T=Ua i/\i.size=t.size/\i.bytes<=4096/\i.zero=Ua z/\G1 t z.cells.toList=Uc/\Kf z=t.agg
 small:∀Et i,P.underlying T=Ua (.slice Et)->P.info? Et=Ua i->i.bytes<=256
 zagg:(XV t).isAgg=t.agg
 shape:Kd θ t (P.underlying T)=Uc
 stood:P.stoodInHeld T=Ud
 guard:P.eqGuardType P.depth T=Ud
theorem Zwp{P:Program}{θ:TypeId->Option Ty}{T:TypeId}{t:Ty}(h:ZiK P θ T t=Uc):Ji P θ T t:=by
 unfold ZiK at h;split at h
 ·rename_i i k;simp only[Va,Kj]at h;obtain⟨⟨⟨⟨⟨⟨d,e⟩,f⟩,b⟩,j⟩,r⟩,s⟩:=h
  have m:∀c i,P.underlying T=Ua (.slice c)->P.info? c=Ua i->i.bytes<=256:=fun c i p q=>by unfold Znu at d;simp_all
  split at b
  ·rename_i z n;simp only[Va,Kj,Vsa]at b;refine⟨⟨i,z,k,e,Nat.le_of_ble_eq_true f,n,b.1.1,b.1.2⟩,m,ZwV t ?_,j,by grind,by grind⟩
   grind
  grind
 grind
section
variable {P:Program}{θ:TypeId->Option Ty}{T:TypeId}{t:Ty}
theorem Ji.und(h:Ji P θ T t):∃d,P.underlying T=Ua d:=by
 have:=h.shape
 cases b:P.underlying T with
 |some d=>simp
 |none=>rw[b]at this;cases t<;>simp [Kd]at this
theorem Ji.run_isAgg(h:Ji P θ T t)(w:World):(isAgg T).run P w=.ok t.agg w:=by
 obtain⟨d,b⟩:=h.und;have c:=h.shape;rw[b]at c;simp only[isAgg,underlying,Vn,run_program,Vj,b,Vs]
 cases t<;>cases d<;>simp_all [Kd,Ty.agg]
theorem Ji.run_sizeOf(h:Ji P θ T t)(w:World):(Go.sizeOf T).run P w=.ok t.size w:=by obtain⟨i,z,b,c,_⟩:=h.info;simp only[Go.sizeOf,typeInfo,Vn,run_program,Vj,b,Vs,c]
theorem Ji.run_zero(h:Ji P θ T t)(w:World):∃z,(zeroValue T).run P w=.ok z w/\ ∀w g,Ko w g (XV t) z/\(XV t).fits t=true:=by
 obtain⟨i,z,c,f,j,d,b,e⟩:=h.info;refine⟨z,?_,fun w g=>⟨⟨(Zf1 b).1,.inr ?_⟩,(Zf1 (w:=w) (g:=g) b).2⟩⟩
 ·simp only[zeroValue,typeInfo,Vn,run_program,Vj,c,Vs,d]
 ·rw[h.zagg,e]
theorem ZwY:∀(t:Ty) (cs:List Value),t.chain=Uc->t.data=Uc->Y5 t cs=Uc->Rl t cs=true:=by
 intro t
 induction t with
 |prod a b _ d=>
  intro cs e c h;simp only[Ty.data,Va]at c;simp only[Y5,Va]at h;simp only[Rl,c.1,Ze,Va]
  exact⟨h.1,d _ (by assumption) c.2 h.2⟩
 |unit=>
  intro cs _ _ h
  cases cs with
  |nil=>rfl
  |cons v l=>assumption
 |_=>intro cs e;simp [Ty.chain]at e
theorem Zor{a b:Ty}{cs:List Value}(d:b.chain=Uc)(h:G1 (.prod a b) cs=Uc):Rl (.prod a b) cs=true:=by
 unfold G1 at h
 cases c:(Ty.prod a b).data with
 |true=>rw[c]at h;exact ZwY _ _ (by assumption) c h
 |false=>grind
theorem Ji.chain{a b:Ty}(h:Ji P θ T (.prod a b)):b.chain=true:=by
 have c:=h.shape;unfold Kd at c
 grind
theorem Ji.run_zerox(h:Ji P θ T t)(x:Bool)(w:World):∃z,(zeroValue T).run P w=.ok z w/\ ∀w g,Ko w g (ZdL x t) z/\(ZdL x t).fits t=true:=by
 have c:ZdL x t=XV t\/ ∃a b,t=.prod a b/\ZdL x t=.agg (G0 Ud (.prod a b)):=by
  cases x with
  |false=>exact .inl rfl
  |true=>cases t with
   |prod a b=>exact .inr ⟨a,b,rfl,rfl⟩
   |_=>exact .inl rfl
 rcases c with c|⟨a,b,rfl,c⟩
 ·rw[c];exact h.run_zero w
 ·rw[c];obtain⟨i,z,d,j,k,e,f,m⟩:=h.info;refine⟨z,?_,fun w g=>?_⟩
  ·simp only[zeroValue,typeInfo,Vn,run_program,Vj,d,Vs,e]
  ·obtain⟨n,p⟩:=Zf0 (w:=w) (g:=g) _ _ (Zor h.chain f);exact⟨⟨by assumption,.inr (by assumption)⟩,by assumption⟩
def Y6(w:World)(b o:Nat)(cs:List Value):Prop:= ∀j v,cs[j]? =Ua v->w.cell? ⟨b,o+j,Ub⟩=Ua v
theorem Y6.add{w:World}{b o:Nat}{cs:List Value}(h:Y6 w b o cs):∀j v,cs[j]? =Ua v->w.cell? ((⟨b,o,Ub⟩:Addr).add j)=Ua v:=by
 intro j v c;unfold Addr.add;split
 ·rename_i d;subst d;exact h 0 v c
 ·exact h j v c
theorem Kw.at{w:World}{b o:Nat}{cs:List Value}(h:Kw w b o cs):Y6 w b o cs:=by intro j v d;obtain⟨c,rfl⟩:=Vaa.1 d;exact h j c
theorem Y6.of_heap{w:World}{b:Nat}{cs:Array Value}{e:TypeId}{fr:Nat×Nat}(h:w.heap[b]? =Ua (.cells cs e fr)){pre c post:List Value}(d:cs.toList=pre++c++post):Y6 w b pre.length c:=by
 intro j v f;simp only[Vx,h,Vr,Vf,if_false];rw[<-Array.getElem?_toList,d,List.append_assoc,Vo (by omega)]
 grind
theorem Zit(h:Ji P θ T t){w:World}{b o:Nat}{cs:List Value}(c:Y6 w b o cs)(f:cs.length=t.size)(d:t.agg=Ud->∃v,cs=[v]):
 (loadVar T ⟨b,o,Ub⟩).run P w=.ok (GQ t.agg cs) w:=by
 simp only[loadVar,Vn,h.run_isAgg,Vj]
 cases e:t.agg with
 |true=>
  simp only[if_true,Vn,h.run_sizeOf,Vj, <-f,run_loadCells_list w _ cs c.add,Vs,GQ]
 |false=>
  obtain⟨v,rfl⟩:=d e;simp [GQ];have:=c 0 v rfl
  grind
theorem Zcv{w:World}{g:Gh}{a:AV}{cs:List Value}(h:CV w g a cs)(d:a.fits t=Uc)(f:a.isAgg=t.agg):Ko w g a (GQ t.agg cs)/\(t.agg=Ud->∃v,cs=[v]):=by
 have e:a≠ .junk:=by rintro rfl;simp [AV.fits]at d
 have c:=CV.oneCell a cs e h t d;have b:=CV.length a t cs d h
 cases i:t.agg with
 |true=>exact⟨⟨by assumption,.inr (by rw[f,i];rfl)⟩,by simp⟩
 |false=>
  have j:t.size=1:=by cases t<;>simp_all [Ty.agg,Ty.size]
  rw[j]at b
  match cs,b with
  |[v],_=>
   have k:=c v (by simp);refine⟨⟨?_,.inr ?_⟩,by simp⟩
   ·have:v.cells= #[v]:=by cases v<;>simp_all [Vh,Vb]
    simpa [GQ,this] using h
   ·rw[f,i];cases v<;>simp_all [GQ,Kf,Vb]
end
theorem Zsh{a:AV}{t:Ty}(h:a.fits t=Uc):a.isAgg=t.agg\/ ∃n,a=.jk n:=by
 cases a with
 |d b x=>simp only[AV.fits,Kj]at h;subst h;exact .inl rfl
 |agg l=>cases l<;>cases t<;>simp_all [AV.fits,Zo.fits,AV.isAgg,Ty.agg]
 |jk n=>simp
 |_=>cases t<;>simp_all [AV.fits,AV.isAgg,Ty.agg]
end Tr
end
section
namespace Tr
open Go
section
variable {α β:Type}{H:AH}{l l' :List Nat}
theorem Zf{a x:α} :(Zu.ret a).run H l=Ua (x,l')↔a=x/\l=l' :=by simp [Zu.run]
theorem Zb{x:α×List Nat} :(Zu.fail:Zu α).run H l=Ua x↔False:=by simp [Zu.run]
theorem Zy{o:Option β}{k:β->Zu α}{x:α×List Nat} :(Zu.opt o k).run H l=Ua x↔∃b,o=Ua b/\(k b).run H l=Ua x:=by
 cases o<;>simp [Zu.run]
theorem ZX{id:Nat}{k:Option K1->Zu α}{x:α×List Nat} :(Zu.getH id k).run H l=Ua x↔(k (H id)).run H (id::l)=Ua x:=Iff.rfl
theorem Zvn{b:Bool}{k:Bool->Zu α}{x:α×List Nat} :(Zu.bool b k).run H l=Ua x↔(k b).run H l=Ua x:=Iff.rfl
theorem Z0{a:Zu β}{f:β->Zu α}{x:α×List Nat} :(a.bind f).run H l=Ua x↔∃y m,a.run H l=Ua (y,m)/\(f y).run H m=Ua x:=by
 rw[Zu.run_bind]
 cases a.run H l with
 |none=>simp
 |some r=>
  obtain⟨y,m⟩:=r;simp only[Za,ZB,Vd];exact⟨fun h=>⟨y,m,⟨rfl,rfl⟩,h⟩,fun⟨e,d,⟨b,c⟩,h⟩=>by subst b;subst c;exact h⟩
theorem ZJ{b:Bool}{x y:Zu α}{z:α×List Nat} :(bif b then x else y).run H l=Ua z↔(b=Uc/\x.run H l=Ua z)\/(b=Ud/\y.run H l=Ua z):=by
 cases b<;>simp
end
theorem KU{v c:Value}(h:v.cells.toList=[c])(b:Kf v=Ud):v=c:=by
 cases v<;>simp_all [Vh,Kf]
section
variable {w:World}{g:Gh}
theorem VR.int{k:IntKind}{n:Int}{v:Value}(h:VR w g (.d (.int k) n) v):v=.int k n:=by obtain⟨b,c⟩:=h;simp only[CV,Rd]at b;exact KU b (by simpa [AV.isAgg,Ty.agg] using c)
theorem VR.bool{b:Bool}{v:Value}(h:VR w g (.d .bool b) v):v=.bool b:=by obtain⟨c,e⟩:=h;simp only[CV,Rd]at c;exact KU c (by simpa [AV.isAgg,Ty.agg] using e)
theorem VR.str{s:List UInt8}{v:Value}(h:VR w g (.d .str s) v):v=.string ⟨s.toArray⟩:=by obtain⟨b,c⟩:=h;simp only[CV,Rd]at b;exact KU b (by simpa [AV.isAgg,Ty.agg] using c)
theorem VR.sl{t:Ty}{xs:List (El t)}{v:Value}(h:VR w g (.d (.sl t) xs) v):∃a cap css,v=.slice a xs.length cap/\Fa (Rd w g.I t) xs css/\
 (xs≠ []->∃b off,a=Ua ⟨b,off,Ub⟩/\g.I b/\Kw w b off css.flatten)/\xs.length<=cap:=by
 obtain⟨c,e⟩:=h;simp only[CV,Rd]at c;obtain⟨a,cap,css,f,i,j⟩:=c;exact⟨a,cap,css,KU f (by simpa [AV.isAgg,Ty.agg] using e),i,j⟩
theorem VR.ptr{id:Nat}{p:List Nat}{v:Value}(h:VR w g (.ptr id p) v):g.K id/\ ∃o t b,ZW (g.ty id) p=Ua (o,t)/\g.blk id=Ua b/\v=.pointer (Ua ⟨b,o,Ub⟩):=by obtain⟨c,d⟩:=h;simp only[CV]at c;obtain⟨j,o,t,b,e,f,i⟩:=c;exact⟨j,o,t,b,e,f,KU i (by simpa [AV.isAgg] using d)⟩
theorem VR.vp{id i:Nat}{p:List Nat}{v:Value}(h:VR w g (.vp id i p) v):g.K id/\ ∃o t b,ZW (g.ty id) p=Ua (o,t)/\g.blk id=Ua b/\v=.pointer (Ua ⟨b,i* (g.ty id).size+o,Ub⟩):=by obtain⟨c,d⟩:=h;simp only[CV]at c;obtain⟨k,o,t,b,e,f,j⟩:=c;exact⟨k,o,t,b,e,f,KU j (by simpa [AV.isAgg] using d)⟩
theorem VR.dp{t:Ty}{x:El t}{v:Value}(h:VR w g (.dp t x) v):∃b off c,v=.pointer (Ua ⟨b,off,Ub⟩)/\g.I b/\Kw w b off c/\Rd w g.I t x c:=by obtain⟨d,e⟩:=h;simp only[CV]at d;obtain⟨b,off,c,f,i⟩:=d;exact⟨b,off,c,KU f (by simpa [AV.isAgg] using e),i⟩
theorem VR.vw{id:Nat}{v:Value}(h:VR w g (.vw id) v):g.K id/\v=g.slv id:=by obtain⟨b,c⟩:=h;simp only[CV]at b;exact⟨b.1,KU b.2.1 (by simpa [AV.isAgg] using c)⟩
theorem VR.vs{id lo n:Nat}{v:Value}(h:VR w g (.vs id lo n) v):g.K id/\Zcb (g.slv id) (g.ty id).size lo n [v]:=by
 obtain⟨b,c⟩:=h;simp only[CV]at b;refine⟨b.1,?_⟩;have d:Kf v=false:=by simpa [AV.isAgg] using c
 have:v.cells.toList=[v]:=by cases v<;>simp_all [Vh,Kf]
 rw[this]at b;exact b.2
theorem VR.nw{id ver:Nat}{b:Ty}{k:El b}{v:Value}(h:VR w g (.nw id ver b k) v):g.K id/\ver<=g.ver id/\v.oneCell' =Uc/\(g.ver id=ver->v=g.row id b k):=by obtain⟨c,d⟩:=h;simp only[CV]at c;obtain⟨j,m,u,e,f,i⟩:=c;have:v=u:=KU e (by simpa [AV.isAgg] using d);subst this;exact⟨j,m,f,i⟩
theorem VR.np{id ver:Nat}{c:Ty}{k:El c}{i:Nat}{p:List Nat}{v:Value}(h:VR w g (.np id ver c k i p) v):g.K id/\ver<=g.ver id/\ ∃a,v=.pointer (Ua a)/\
 (g.ver id=ver->∃b len cap o t,g.row id c k=.slice (Ua ⟨b,0,Ub⟩) len cap/\ZW (DW (g.ty id)) p=Ua (o,t)/\a=⟨b,i* (DW (g.ty id)).size+o,Ub⟩):=by
 obtain⟨d,e⟩:=h;simp only[CV]at d;obtain⟨m,n,a,f,j⟩:=d;exact⟨m,n,a,KU f (by simpa [AV.isAgg] using e),j⟩
theorem VR.mp{id:Nat}{v:Value}(h:VR w g (.mp id) v):g.K id/\ ∃b,g.blk id=Ua b/\v=.map (Ua b):=by obtain⟨c,d⟩:=h;simp only[CV]at c;obtain⟨i,b,e,f⟩:=c;exact⟨i,b,e,KU f (by simpa [AV.isAgg] using d)⟩
theorem VR.fn{f:FuncId}{l:Zo}{v:Value}(h:VR w g (.fn f l) v):∃b:List Value,v=J4 f b/\Z9 w g l b:=by obtain⟨c,d⟩:=h;simp only[CV]at c;obtain⟨b,e,i⟩:=c;exact⟨b,KU e (by simpa [AV.isAgg] using d),i⟩
theorem VR.nils{v:Value}(h:VR w g .nils v):v=.slice Ub 0 0:=by obtain⟨b,c⟩:=h;simp only[CV]at b;exact KU b (by simpa [AV.isAgg] using c)
theorem VR.nilr{v:Value}{p:Bool}(h:VR w g (.nilr p) v):v=.pointer Ub\/v=.nilFunc\/v=.map none:=by
 obtain⟨b,d⟩:=h;have b:=ZbU b;have c:Kf v=false:=by simpa [AV.isAgg] using d
 rcases b with h|h|h
 ·exact .inl (KU h c)
 ·exact .inr (.inl (KU h c))
 ·exact .inr (.inr (KU h c))
theorem VR.of1{a:AV}{v:Value}(h:Ko w g a v):VR w g a v:=by
 cases a with
 |tup l=>exact absurd h.1 (by simp [CV])
 |_=>exact h
theorem VR.to1{a:AV}{v:Value}(h:VR w g a v)(b:∀l,a≠ .tup l):Ko w g a v:=by
 cases a with
 |tup l=>exact absurd rfl (b l)
 |_=>exact h
theorem Jj(k:IntKind)(n:Int):VR w g (.d (.int k) n) (.int k n):=⟨by simp [CV,Rd,Vh],.inr rfl⟩
theorem JW(b:Bool):VR w g (.d .bool b) (.bool b):=⟨by simp [CV,Rd,Vh],.inr rfl⟩
theorem Zcw(s:List UInt8):VR w g (.d .str s) (.string ⟨s.toArray⟩):=⟨by simp [CV,Rd,Vh],.inr rfl⟩
theorem KK{a:AV}{v:Value}(h:CV w g a [v])(c:v.oneCell' =Uc)(b:a.isAgg=Ud):VR w g a v:=by
 apply VR.of1;refine⟨?_,.inr ?_⟩
 ·have:v.cells= #[v]:=by cases v<;>simp_all [Vh,Vb]
  simpa [this] using h
 ·rw[b];cases v<;>simp_all [Kf,Vb]
end
def Fr(w:World)(g:Gh)(F:Nat->AV)(tmps:Array Value):Prop:= ∀t,VR w g (F t) (tmps.getD t undef)
theorem Fr.mono{w w' :World}{g g' :Gh}{F:Nat->AV}{tmps:Array Value}(c:Km g.I w w')(b:g.Le g')(h:Fr w g F tmps):Fr w' g' F tmps:=fun t=>(h t).mono c b
theorem ZoJ{w:World}{g:Gh}(v:Value):VR w g (Zee v) v:=by
 unfold Zee;split
 ·exact JW _
 ·exact Jj _ _
 ·rename_i s;obtain⟨⟨l⟩⟩:=s;exact Zcw l
 ·exact⟨by simp [CV,Vh],.inr rfl⟩
 ·exact⟨by simp [CV,Vh],.inr rfl⟩
 ·exact⟨by simp [CV,Vh],.inr rfl⟩
 ·exact⟨by simp [CV,Vh],.inr rfl⟩
 ·exact HB
theorem Fr.eval{w:World}{g:Gh}{F:Nat->AV}{a:Act}(h:Fr w g F a.tmps)(x:Operand):VR w g (Zx F x) (a.eval x):=by
 cases x with
 |tmp t=>exact h t
 |const v=>exact ZoJ v
 |global i=>exact HB
 |func f=>
  simp only[Zx]
  cases b:Vg f WL with
  |false=>exact HB
  |true=>exact⟨by simp [CV,Z9,Act.eval,Vh,J4,b],.inr rfl⟩
def Zq(B:Z1)(H' :AH)(w:World)(g:Gh)(nid:Nat)(v:AV)(r:Result Next):Prop:=
 ∃val b c d,(r=.ok (.value val) b\/(r=.ok .skip b/\val=undef))/\RH B H' b c d/\g.Le c/\Km g.I w b/\VR b c v val/\
  ∀id,c.K id->g.K id\/(nid<=id/\id<nid+Wr)
theorem Zq.pure{B:Z1}{H:AH}{w:World}{g:Gh}{ow:Nat->Nat->Prop}{nid:Nat}{v:AV}{val:Value}{r:Result Next}(b:RH B H w g ow)(c:r=.ok (.value val) w)(d:VR w g v val):Zq B H w g nid v r:=
 ⟨val,w,g,ow,.inl c,b,.refl g,fun _ _=>rfl,d,fun _ h=>.inl h⟩
theorem Zq.after_le{B:Z1}{H' :AH}{w:World}{g d:Gh}{nid:Nat}{v:AV}{r:Result Next}(c:g.Le d)(s:∀id,d.K id->g.K id)(h:Zq B H' w d nid v r):Zq B H' w g nid v r:=by obtain⟨val,x,i,f,j,k,m,n,p,q⟩:=h;exact⟨val,x,i,f,j,k,c.trans m,fun b u=>n b (c.I b u),p,fun id e=>(q id e).imp (s id) fun h=>h⟩
theorem Yu{g:Gh}{nid:Nat}(b:∀id,g.K id->id<nid\/nid+Wr<=id):¬g.K nid:=fun h=>by have:=b nid h;unfold Wr at this;omega
theorem Zq.new' {B:Z1}{H:AH}{w:World}{g:Gh}{ow:Nat->Nat->Prop}{nid:Nat}{v:AV}{val:Value}{r:Result Next}{t:Ty}{sv:Value}{o:Obj}{ob:K1}(c:RH B H w g ow)(e:¬g.K nid)
 (s:r=.ok (.value val) (w.alloc o)) (q:ORel (w.alloc o) (g.add nid t (Ua w.heap.size) sv) (fun k=>k=w.heap.size) nid ob)
 (x:VR (w.alloc o) (g.add nid t (Ua w.heap.size) sv) v val):Zq B (ZY H nid (Ua ob)) w g nid v r:=by
 have d:∀k,k<w.heap.size->(w.alloc o).heap[k]? =w.heap[k]? :=fun k i=>by show (w.heap.push o)[k]? =_;rw[Array.getElem?_push,Zg (by omega)]
 refine⟨val,w.alloc o,g.add nid t (Ua w.heap.size) sv,Xd ow nid (fun k=>k=w.heap.size),.inl s,?_,Gh.le_add e _ _ _,fun b p=>d b (c.ilt b p),x,?_⟩
 ·have u:(w.alloc o).heap.size=w.heap.size+1:=Array.size_push ..;refine c.add e d (by omega) rfl rfl ⟨rfl,Vl _⟩ (fun k i=>?_) q;subst i;refine⟨fun n=>absurd (c.ilt _ n) (by omega),by omega,.inr c.size,fun f j m=>?_⟩;have:=(c.sep f _ j m).2.1;omega
 ·intro id h;rcases h with rfl|h
  ·exact .inr ⟨Vl _,by unfold Wr;omega⟩
  ·exact .inl h
theorem Zq.new{B:Z1}{H:AH}{w:World}{g:Gh}{ow:Nat->Nat->Prop}{nid:Nat}{v:AV}{val:Value}{r:Result Next}{t:Ty}{sv:Value}{o:Obj}{ob:K1}(b:RH B H w g ow)(c:∀id,g.K id->id<nid\/nid+Wr<=id)
 (e:r=.ok (.value val) (w.alloc o)) (d:ORel (w.alloc o) (g.add nid t (Ua w.heap.size) sv) (fun k=>k=w.heap.size) nid ob)
 (f:VR (w.alloc o) (g.add nid t (Ua w.heap.size) sv) v val):Zq B (ZY H nid (Ua ob)) w g nid v r:=Zq.new' b (Yu c) e d f
structure Z3 (P:Program) (E:Ka):Prop where
 ty:∀T t,E.ty T=Ua t->Ji P E.ty T t
 mty:∀T m,E.mty T=Ua m->∃K V,P.underlying T=Ua (.map K V)/\E.ty K=Ua m.1/\E.ty V=Ua m.2
 pk:∀T,(E.pk T=1->∃e,P.underlying T=Ua (.pointer e))/\(E.pk T=2->∃a b c,P.underlying T=Ua (.func a b c))/\(E.pk T=3->∃a b,P.underlying T=Ua (.map a b))
 pz:∀T,E.pz T=Uc->∃e,P.underlying T=Ua (.pointer e)/\ ∀w:World,∃n,(Go.sizeOf e).run P w=.ok n w/\n≠0
 bd:∀T e,E.bd T=Ua e->∃z:Value,(∀w,(zeroValue T).run P w=.ok z w)/\z.cells= #[.pointer Ub,.slice Ub 0 0]
section ops
variable {P:Program}{E:Ka}{B:Z1}{H:AH}{w:World}{g:Gh}{ow:Nat->Nat->Prop}{nid:Nat}{a:Act}{F:Nat->AV}{v:AV}{patch:Kx}{rd:List Nat}{o:Oper}
theorem ZjB{x:Operand}(c:RH B H w g ow)(hF:Fr w g F a.tmps)(b:o.op=.move x\/o.op=.assign x)(h:(ZN E nid o.op o.type (Zx F)).run H []=Ua ((v,patch),rd)):Zq B (Zp H patch) w g nid v ((execOp a.eval o).run P w):=by
 rcases b with b|b<;>rw[b]at h<;>simp only[ZN,Zf,Vd]at h<;>obtain⟨⟨rfl,rfl⟩,_⟩:=h<;>
  exact Zq.pure c (by unfold execOp;rw[b];rfl) (hF.eval x)
theorem ZpL{c x y:Operand}(d:RH B H w g ow)(hF:Fr w g F a.tmps)(b:o.op=.pick c x y)(h:(ZN E nid o.op o.type (Zx F)).run H []=Ua ((v,patch),rd)):Zq B (Zp H patch) w g nid v ((execOp a.eval o).run P w):=by
 rw[b]at h;simp only[ZN]at h;split at h
 ·rename_i t f;simp only[Zvn,Zf,Vd]at h;obtain⟨⟨rfl,rfl⟩,_⟩:=h;have e:=(f▸hF.eval c).bool;cases t
  ·exact Zq.pure d (by unfold execOp;rw[b];simp only[e];rfl) (hF.eval y)
  ·exact Zq.pure d (by unfold execOp;rw[b];simp only[e];rfl) (hF.eval x)
 ·simp [Zb]at h
theorem ZpJ{x:Operand}(q:RH B H w g ow)(hF:Fr w g F a.tmps)(f:o.op=.nilCheck x)(h:(ZN E nid o.op o.type (Zx F)).run H []=Ua ((v,patch),rd)):Zq B (Zp H patch) w g nid v ((execOp a.eval o).run P w):=by
 rw[f]at h;simp only[ZN,ZJ,Zf,Zb,ZP,Z6,Vd]at h;obtain⟨m,⟨rfl,rfl⟩,_⟩:=h;have e:=hF.eval x;refine Zq.pure (val:=a.eval x) q ?_ e
 cases r:Zx F x<;>rw[r]at m e<;>simp [Zls]at m
 ·obtain⟨b,off,c,d,_⟩:=e.dp;simp [execOp,f,d]
 ·obtain⟨_,s,t,b,_,_,d⟩:=e.ptr;simp [execOp,f,d]
 ·obtain⟨_,s,t,b,_,_,d⟩:=e.vp;simp [execOp,f,d]
 ·obtain⟨_,b,_,d⟩:=e.mp;simp [execOp,f,d]
 ·obtain⟨p,d,_⟩:=e.fn
  obtain⟨n,j,i,d⟩:∃n j i,a.eval x=.func (.func n) j i:=by
   rcases ZbK _ p with ⟨_,k⟩|⟨_,k⟩
   all_goals exact⟨_,_,_,d.trans k⟩
  simp [execOp,f,d]
 ·obtain⟨_,_,a,d,_⟩:=e.np;simp [execOp,f,d]
theorem Zpw{x:Operand}{i:Nat}(n:RH B H w g ow)(hF:Fr w g F a.tmps)(e:o.op=.extract x i)(h:(ZN E nid o.op o.type (Zx F)).run H []=Ua ((v,patch),rd)):Zq B (Zp H patch) w g nid v ((execOp a.eval o).run P w):=by
 rw[e]at h;simp only[ZN]at h;split at h
 ·rename_i l p;simp only[Zy,Zf,Vd]at h;obtain⟨j,q,⟨rfl,rfl⟩,_⟩:=h;have f:=hF.eval x;rw[p]at f;obtain⟨vs,k,m⟩:=f
  have key:∀(l:Zo) (vs:List Value) (i:Nat),WK w g l vs->l.nth i=Ua j->∃u,vs[i]? =Ua u/\Ko w g j u:=by
   intro l
   induction l using Zo.rec (motive_1:=fun _=>True) with
   |nil=>intro vs i _ h;simp [Zo.nth]at h
   |cons b l _ y=>
    intro vs i s h;obtain⟨u,r,rfl,c,d⟩:=s
    cases i with
    |zero=>simp only[Zo.nth,ZB]at h;subst h;exact⟨u,rfl,c⟩
    |succ i=>simp only[Zo.nth]at h;simpa using y r i d h
   |_=>trivial
  obtain⟨u,c,d⟩:=key l vs i m q;refine Zq.pure (val:=u) n ?_ (VR.of1 d);simp [execOp,e,k,Instr.extract,c]
 ·simp [Zb]at h
end ops
end Tr
end
section
namespace Tr
open Go
def ZL(H:AH)(ow:Nat->Nat->Prop)(ids:List Nat)(b:Nat):Prop:= ∃id∈ids,H id≠Ub/\ow id b
theorem RH.free{B:Z1}{H:AH}{w w' :World}{g:Gh}{ow:Nat->Nat->Prop}(h:RH B H w g ow){b:Nat}(x:∀id,H id≠Ub->¬ow id b)(u:¬g.I b)(s:B.own0 b\/B.w0.heap.size<=b)
 (d:∀k,k≠b->w'.heap[k]? =w.heap[k]?) (e:w'.heap.size=w.heap.size) (q:w'.os=w.os) (f:w'.tape=w.tape) (n:YK w' w):RH B H w' g ow where
 objs:=fun k o r=>by obtain⟨i,j⟩:=h.objs k o r;exact⟨i,j.mono (fun c m=>by grind) (.refl g) i rfl (by grind)⟩
 dist:=h.dist
 sep:=fun k c i j=>by rw[e];exact h.sep k c i j
 ilt:=fun c m=>by rw[e];exact h.ilt c m
 inew:=h.inew
 os:=q.trans h.os
 tape:=f.trans h.tape
 output:=n.trans h.output
 size:=by rw[e];exact h.size
 kept:=fun c i j=>by
  have p:c≠b:=by
   grind
  rw[d c p];exact h.kept c i j
theorem Xj:∀(b c:Kx) (H:AH),Zp H (b++c)=Zp (Zp H b) c
 |[],_,_=>rfl
 |p::b,c,H=>Xj b c (ZY H p.1 p.2)
theorem RH.drops{B:Z1}{w:World}{g:Gh}{ow:Nat->Nat->Prop} :∀(l:List Nat) {H:AH},RH B H w g ow->RH B (Zp H (l.map fun id=>(id,Ub))) w g ow
 |[],_,h=>h
 |id::l,H,h=>by simp only[Vq,Zp];exact RH.drops l (h.drop id)
theorem DU:∀(l:List Nat) (H:AH) (k:Nat),Zp H (l.map fun id=>(id,Ub)) k=if k∈l then Ub else H k
 |[],H,k=>by rfl
 |id::l,H,k=>by
  simp only[Vq,Zp];rw[DU l];by_cases c:k∈l
  ·grind
  ·by_cases b:k=id
   ·subst b;simp [c,XC]
   ·simp [c,b,Kt b]
theorem ZkI{a b:Ty}{x y:El (.prod a b)}{r:Bool}(h:eqEl (.prod a b) x y=Ua r):
 ∃p q,eqEl a x.1 y.1=Ua p/\eqEl b x.2 y.2=Ua q/\r=(p&&q):=by
 cases b with
 |unit=>
  simp only[eqEl]at h
  exact⟨r,Uc,h,rfl,by simp⟩
 |_=>
  simp only[eqEl,Vfa]at h;obtain⟨p,c,q,d,e⟩:=h;exact⟨p,q,c,d,by grind⟩
theorem ZkJ:∀(t:Ty) (x y:El t),eqEl t x y=Ua Uc->x=y:=by
 intro t
 induction t with
 |int k=>intro x y h;simpa [eqEl] using h
 |bool=>intro x y h;simpa [eqEl] using h
 |str=>intro x y h;simpa [eqEl] using h
 |unit=>simp
 |sl t _=>intro x y h;simp [eqEl]at h
 |ref=>simp
 |pt t _=>intro x y h;simp [eqEl]at h
 |lk a b _ _=>intro x y h;simp [eqEl]at h
 |pn t _=>intro x y h;simp [eqEl]at h
 |prod a b c d=>
  intro x y h;obtain⟨p,q,f,i,j⟩:=ZkI h
  grind
 |arr n t r=>
  intro x y h;simp only[eqEl]at h
  have key:∀(l m:List (El t)),eqEl.eqs (eqEl t) l m=Ua Uc->l=m:=by
   intro l
   induction l with
   |nil=>intro m h;cases m<;>simp [eqEl.eqs]at h;rfl
   |cons a l e=>
    intro m h
    cases m with
    |nil=>simp [eqEl.eqs]at h
    |cons b m=>
     simp only[eqEl.eqs,Vfa,ZB,Va]at h
     grind
  grind
theorem Zr5:∀(t:Ty) (x:El t),t.key=Uc->eqEl t x x=Ua true:=by
 intro t
 induction t with
 |int k=>intro x _;simp [eqEl]
 |bool=>intro x _;simp [eqEl]
 |str=>intro x _;simp [eqEl]
 |unit=>intro x _;rfl
 |sl t _=>intro x h;simp [Ty.key]at h
 |ref=>intro x h;simp [Ty.key]at h
 |pt t _=>intro x h;simp [Ty.key]at h
 |lk a b _ _=>intro x h;simp [Ty.key]at h
 |pn t _=>intro x h;simp [Ty.key]at h
 |prod a b c d=>
  intro x h;simp only[Ty.key,Va]at h;have i:=c x.1 h.1;have j:=d x.2 h.2
  cases b with
  |unit=>assumption
  |_=>
   show (eqEl a x.1 x.1).bind _=_
   grind
 |arr n t f=>
  intro x h;simp only[Ty.key]at h;simp only[eqEl]
  have key:∀l:List (El t),eqEl.eqs (eqEl t) l l=Ua true:=by
   intro l
   induction l with
   |nil=>rfl
   |cons a l e=>simp [eqEl.eqs,f a h,e]
  grind
theorem JO{t:Ty}(c:t.key=Uc){x y:El t} :Zm t x y=Uc↔x=y:=by
 constructor
 ·intro h;unfold Zm at h
  cases b:eqEl t x y with
  |none=>grind
  |some r=>
   rw[b]at h;simp only[Option.getD_some]at h;subst h;exact ZkJ t x y b
 ·rintro rfl;simp [Zm,Zr5 t x c]
theorem DY{t:Ty}(h:t.keyOk=Uc):t.key=true:=by simp only[Ty.keyOk,Va]at h;grind
def WY{α β:Type}(eq:α->α->Bool)(k:α):List (α×β)->Option Nat
 |[]=>Ub
 |e::l=>bif eq k e.1 then Ua 0 else(WY eq k l).map (· +1)
theorem DL{α β:Type}(eq:α->α->Bool)(k:α):∀(l:List (α×β)),ZT eq k l=(WY eq k l).bind fun j=>(l[j]?).map Vra
 |[]=>rfl
 |e::l=>by
  simp only[ZT,WY]
  cases eq k e.1 with
  |true=>rfl
  |false=>
   simp only[Zd,DL eq k l]
   cases WY eq k l<;>simp
theorem Rx{α β:Type}(eq:α->α->Bool)(k:α)(v:β):∀(l:List (α×β)),Kn eq k v l=match WY eq k l with|some j=>l.set j (k,v) |none=>l++[(k,v)]
 |[]=>rfl
 |e::l=>by
  simp only[Kn,WY]
  cases eq k e.1 with
  |true=>rfl
  |false=>
   simp only[Zd,Rx eq k v l]
   grind
theorem Rw{α β:Type}(eq:α->α->Bool)(k:α):∀(l:List (α×β)) (j:Nat),WY eq k l=Ua j->∃e,l[j]? =Ua e/\eq k e.1=Uc
 |[],j,h=>by simp [WY]at h
 |e::l,j,h=>by
  simp only[WY]at h
  cases c:eq k e.1 with
  |true=>grind
  |false=>
   rw[c]at h;simp only[Zd,Option.map_eq_some_iff]at h;obtain⟨i,b,rfl⟩:=h;obtain⟨d,f,m⟩:=Rw eq k l i b
   grind
theorem Zeb{t:Ty}{β:Type}(c:t.key=Uc){k:El t} :∀{l:List (El t×β)}{x:β},ZT (Zm t) k l=Ua x->(k,x)∈l
 |[],_,h=>by simp [ZT]at h
 |e::l,x,h=>by
  simp only[ZT]at h
  cases b:Zm t k e.1 with
  |true=>
   rw[b]at h;simp only[Ze,ZB]at h;have:=(JO c).1 b
   grind
  |false=>rw[b]at h;exact List.mem_cons_of_mem _ (Zeb c h)
theorem Zbi{t:Ty}{β:Type}(c:t.key=Uc){k:El t} :∀{l:List (El t×β)},ZT (Zm t) k l=Ub->k ∉ l.map Ve
 |[],_=>by simp
 |e::l,h=>by
  simp only[ZT]at h
  cases b:Zm t k e.1 with
  |true=>grind
  |false=>
   rw[b]at h;simp only[Vq,Vka,not_or];exact⟨fun d=>by rw[(JO c).2 d]at b;grind,Zbi c h⟩
theorem Ry{t:Ty}{β:Type}(b:t.key=Uc){k:El t}{v:β} :∀{l:List (El t×β)},(k∈l.map Ve->(Kn (Zm t) k v l).map Ve=l.map Ve)/\(k ∉ l.map Ve->Kn (Zm t) k v l=l++[(k,v)])
 |[]=>by simp [Kn]
 |e::l=>by
  have h:=Ry b (k:=k) (v:=v) (l:=l);simp only[Kn]
  cases c:Zm t k e.1 with
  |true=>
   have:=(JO b).1 c
   grind
  |false=>
   have f:k≠e.1:=fun d=>by rw[(JO b).2 d]at c;grind
   grind
theorem Zgv{t:Ty}{β:Type}(b:t.key=Uc){k:El t}{v:β}{l:List (El t×β)}(c:(l.map Ve).Nodup):((Kn (Zm t) k v l).map Ve).Nodup:=by
 by_cases h:k∈l.map Ve
 ·rw[(Ry b).1 h];omega
 ·rw[(Ry b).2 h,Vqa,Vma]
  grind
theorem Ze8{t:Ty}{β:Type}(d:t.key=Uc){k c:El t}{v x:β} :∀{l:List (El t×β)},(l.map Ve).Nodup->(c,x)∈Kn (Zm t) k v l->(c=k/\x=v)\/(c≠k/\(c,x)∈l)
 |[],_,h=>by simp [Kn]at h;grind
 |e::l,f,h=>by
  simp only[Vq,Vta]at f;simp only[Kn]at h
  cases b:Zm t k e.1 with
  |true=>
   have j:=(JO d).1 b
   grind
  |false=>
   rw[b]at h;simp only[Zd,Vka]at h;rcases h with h|h
   ·refine .inr ⟨fun i=>?_,by grind⟩;rw[<-h]at b;rw[(JO d).2 i.symm]at b;grind
   ·exact(Ze8 d f.2 h).imp (fun h=>h) fun⟨m,n⟩=>by grind
theorem ZbC{α β:Type}{r:α->β->Prop} :∀{l:List α}{m:List β},l.length=m.length->(∀(n:Nat) a b,l[n]? =Ua a->m[n]? =Ua b->r a b)->Fa r l m
 |[],[],_,_=>trivial
 |a::l,b::m,h,c=>⟨c 0 a b rfl rfl,ZbC (by grind) fun n x y d e=>c (n+1) x y d e⟩
theorem Jo{n:Nat} :∀{l:List Nat},KO n l=Uc↔n∈l
 |[]=>by simp [KO]
 |k::l=>by simp only[KO,Vsa,Nat.beq_eq,Vka,Jo]
theorem Zff:∀{l:List Nat},Gm l=Uc↔l.Nodup
 |[]=>by simp [Gm]
 |n::l=>by simp only[Gm,Va,Vba,Vta,Zff];rw[<-Jo,Vpa]
theorem RJ:∀{l m:List Nat},J1 l m=Uc↔∀n∈l,n ∉ m
 |[],m=>by simp [J1]
 |n::l,m=>by simp only[J1,Va,Vba,List.forall_mem_cons,RJ];rw[<-Jo,Vpa]
theorem Yw{b:Bool}{u:Unit}(h:Zz b=Ua u):b=true:=by
 cases b<;>simp [Zz]at h;rfl
theorem ZeL{α β:Type}{r:α->β->Prop} :∀{l:List α}{m:List β},Fa r l m->∀{n:Nat}{a:α}{b:β},l[n]? =Ua a->m[n]? =Ua b->r a b
 |[],[],_,n,a,b,h,_=>by grind
 |_::_,_::_,⟨p,_⟩,0,a,b,h,c=>by
  grind
 |_::_,_::_,⟨_,q⟩,n+1,a,b,h,c=>ZeL q (by assumption) (by grind)
theorem Zf4{P:Program}{θ:TypeId->Option Ty}{T:TypeId}{t:Ty}(h:Ji P θ T (.sl t))(w:World):(zeroValue T).run P w=.ok (.slice Ub 0 0) w:=by
 obtain⟨i,z,d,_,_,e,b,k⟩:=h.info
 have f:z.cells.toList=[.slice Ub 0 0]:=by
  unfold G1 at b
  cases c:(Ty.sl t).data with
  |true=>
   rw[c]at b;simp only[Ze]at b
   match j:z.cells.toList,b with
   |[.slice Ub 0 0],_=>rfl
  |false=>
   rw[c]at b;simp only[Zd]at b
   match j:z.cells.toList,b with
   |[.slice Ub 0 0],_=>rfl
 have:z=.slice Ub 0 0:=KU f (by assumption);subst this;simp only[zeroValue,typeInfo,Vn,run_program,Vj,d,Vs,e]
section
variable {B:Z1}{H:AH}{w:World}{g:Gh}{ow:Nat->Nat->Prop}
theorem RE{t b:Ty}{x:List (El t)}{y:El (.sl b)}(h:Kr (.sl t) (.sl b) x=Ua y):∃e:t=b,y=(e▸x:List (El b)):=by
 obtain⟨e,h⟩:=KE h
 grind
theorem Zdp{t:Ty}{x:AV}{val:Value}{y:List (El t)}{ids l l' :List Nat}(u:RH B H w g ow)(p:VR w g x val)(h:(Jq t x).run H l=Ua ((y,ids),l')):
 (ids=[]/\y=[]/\val=.slice Ub 0 0)\/ ∃id,ids=[id]/\H id≠Ub/\((y=[]/\val=.slice Ub 0 0)\/ ∃b cap cs e css,ow id b/\val=.slice (Ua ⟨b,0,Ub⟩) y.length cap/\w.heap[b]? =Ua (.cells cs e (0,0))/\
   y.length<=cap/\cap*t.size<=cs.size/\Fa (Rd w g.I t) y css/\css.flatten<+:cs.toList):=by
 unfold Jq at h;split at h
 ·rename_i id;rw[ZX]at h;split at h
  ·rename_i J xs f;simp only[Zy,Zf,Vd]at h;obtain⟨K,q,⟨rfl,rfl⟩,_⟩:=h;obtain⟨i,rfl⟩:=KE q;cases i;obtain⟨_,d⟩:=p.vw;obtain⟨_,_,s⟩:=u.objs id _ f
   grind
  ·simp [Zb]at h
 ·rename_i id n;rw[ZX]at h;split at h
  ·rename_i J xs f;simp only[Zy,Zf,Vd]at h;obtain⟨K,q,⟨rfl,rfl⟩,_⟩:=h;obtain⟨i,rfl⟩:=KE q;cases i;obtain⟨_,d⟩:=p.vs;obtain⟨_,k,s⟩:=u.objs id _ f;rw[k]at d;refine .inr ⟨id,rfl,by grind,?_⟩;rcases d with ⟨A,_,rfl,d⟩|⟨b,len,cap,m,A,M,N,O,d⟩
   ·grind
   ·rcases s with ⟨_,_,c⟩|⟨L,r,cs,e,css,_,G,c,D,Q,R,j,C⟩
    ·grind
    ·rw[A]at c;simp only[Vab.injEq,ZB,Addr.mk.injEq,and_true]at c;obtain⟨rfl,rfl,rfl⟩:=c;have z:(xs.take n).length=n:=by grind
     refine .inr ⟨b,m,cs,e,css.take n,G,?_,D,?_,?_,j.take n,?_⟩
     ·grind
     ·grind
     ·have:m*t.size<=cap*t.size:=Nat.mul_le_mul_right _ (by omega);omega
     ·refine List.IsPrefix.trans ⟨(css.drop n).flatten,?_⟩ C;rw[<-List.flatten_append,Vha]
  ·simp [Zb]at h
 ·simp only[Zf,Vd]at h;obtain⟨⟨rfl,rfl⟩,_⟩:=h;exact .inl ⟨rfl,rfl,p.nils⟩
 ·simp [Zb]at h
theorem Zdq{t:Ty}{x:AV}{val:Value}{y:List (El t)}{ids l l' :List Nat}(p:RH B H w g ow)(r:VR w g x val)(h:(Jq t x).run H l=Ua ((y,ids),l')):Wp w g.I (ZL H ow ids) t y val:=by
 rcases Zdp p r h with ⟨_,c,d⟩|⟨id,rfl,i,⟨c,d⟩|⟨b,cap,cs,e,f,q,c,d,j,k,m,n⟩⟩
 ·exact .inl ⟨c,d⟩
 ·exact .inl ⟨c,d⟩
 ·exact .inr ⟨b,cap,cs,e,f,c,⟨id,by simp,i,q⟩,d,j,k,m,n⟩
theorem Wp.own{I J:Nat->Prop}{t:Ty}{xs:List (El t)}{d:Value}(h:Wp w I J t xs d){b:Nat}(c:Wi d=Ua b):J b:=by
 rcases h with ⟨_,rfl⟩|⟨e,_,_,_,_,rfl,f,_⟩
 ·simp [Wi]at c
 ·simp only[Wi,ZB]at c;grind
theorem Wp.one{I J:Nat->Prop}{t:Ty}{xs:List (El t)}{b:Value}(h:Wp w I J t xs b):b.oneCell' =Uc/\Kf b=false:=by
 rcases h with ⟨_,rfl⟩|⟨c,_,_,_,_,rfl,d,_⟩<;>exact⟨rfl,rfl⟩
theorem RF.put{κ:Type}{w' :World}{I J u:Nat->Prop}{t:Ty}{top:Option Nat}{row e:κ->Value}{c c' :κ->List (El t)->Prop}{hole:Option κ}(h:RF w I J t top row c hole){k0:κ}{x0:List (El t)}
 (d:∀k,k≠k0->e k=row k) (r:∀k x,c' k x->(k=k0/\x=x0)\/(k≠k0/\c k x)) (K:hole=Ub\/hole=Ua k0) (L:Wp w' I u t x0 (e k0))
 (q:∀k x,c k x->k≠k0->Wp w I J t x (row k)->Wp w' I u t x (row k)) (G:∀b,Wi (e k0)=Ua b->(∀k x,c k x->k≠k0->Wi (row k)≠Ua b)/\top≠Ua b):RF w' I u t top e c' none:=by
 have i:∀k,k≠k0->hole≠Ua k:=by grind
 refine⟨fun k x p _=>?_,fun k s x C b p y z _ _ m n=>?_,fun k x b p _ m=>?_⟩
 ·rcases r k x p with ⟨rfl,rfl⟩|⟨f,j⟩
  ·omega
  ·rw[d k f];exact q k x j f (h.rd k x j (i k f))
 ·rcases r k x p with ⟨rfl,rfl⟩|⟨f,j⟩
  ·grind
  ·rw[d k f]at m;rcases r s C y with ⟨rfl,rfl⟩|⟨A,D⟩
   ·grind
   ·rw[d s A]at n;exact h.ds k s x C b j D z (i k f) (i s A) m n
 ·rcases r k x p with ⟨rfl,rfl⟩|⟨f,j⟩
  ·grind
  ·rw[d k f]at m;exact h.tp k x b j (i k f) m
theorem RF.take{κ:Type}{w' :World}{I J n:Nat->Prop}{t:Ty}{top:Option Nat}{row:κ->Value}{c:κ->List (El t)->Prop}(h:RF w I J t top row c Ub)(k0:κ)
 (e:∀k x,c k x->k≠k0->Wp w I J t x (row k)->Wp w' I n t x (row k)):RF w' I n t top row c (Ua k0):=by
 have m:∀k,Ua k0≠Ua k->k≠k0:=by grind
 exact⟨fun k x d p=>e k x d (m k p) (h.rd k x d (by simp)),fun k q x r b d i j _ _ f=>h.ds k q x r b d i j (by simp) (by simp) f,fun k x b d _ f=>h.tp k x b d (by simp) f⟩
theorem RL.nil{I J:Nat->Prop}{t:Ty} :RL w I J t [] []:=⟨rfl,⟨by simp,by simp,by simp⟩⟩
theorem RL.row{I J:Nat->Prop}{t:Ty}{b:List Value}{xs:List (List (El t))}(h:RL w I J t b xs){i:Nat}{x:List (El t)}(c:xs[i]? =Ua x):Wp w I J t x (b.getD i undef):=h.2.rd i x c (by simp)
theorem RL.mono{w' :World}{I d J e:Nat->Prop}{t:Ty}{c:List Value}{xs:List (List (El t))}(m:Km I w w')(f:∀b,I b->d b)(n:∀b,J b->e b)(p:∀i x b,xs[i]? =Ua x->Wi (c.getD i undef)=Ua b->w'.heap[b]? =w.heap[b]?)(h:RL w I J t c xs):RL w' d e t c xs:=
 ⟨h.1,⟨fun k x j _=>(h.row j).mono m f (by grind) (by grind),h.2.ds,h.2.tp⟩⟩
theorem RL.single{I J:Nat->Prop}{t:Ty}{v:Value}{x:List (El t)}(h:Wp w I J t x v):RL w I J t [v] [x]:=by
 refine⟨rfl,⟨by grind,by grind,by simp⟩⟩
 all_goals grind
theorem RL.append{I z A:Nat->Prop}{t:Ty}{k m:List Value}{xs u:List (List (El t))}(a:RL w I z t k xs)(b:RL w I A t m u)(D:∀c,z c->¬A c):RL w I (fun c=>z c\/A c) t (k++m) (xs++u):=by
 have key:∀i x,(xs++u)[i]? =Ua x->(i<xs.length/\xs[i]? =Ua x/\(k++m).getD i undef=k.getD i undef)\/(xs.length<=i/\u[i - xs.length]? =Ua x/\(k++m).getD i undef=m.getD (i - xs.length) undef):=by
  intro i x h;rcases Nat.lt_or_ge i xs.length with s|s
  ·rw[Vca s]at h;exact .inl ⟨s,h,by simp only[Vy];rw[Vca (by rw[a.1];omega)]⟩
  ·rw[Vo s]at h;exact .inr ⟨s,h,by simp only[Vy];rw[Vo (by rw[a.1];omega),a.1]⟩
 refine⟨by simp [a.1,b.1],⟨fun i x h _=>?_,fun i j x y c h J C _ _ f d=>?_,by simp⟩⟩
 ·rcases key i x h with ⟨_,n,e⟩|⟨_,n,e⟩
  ·rw[e];exact(a.row n).mono (fun _ _=>rfl) (by simp) (by grind) (by simp)
  ·rw[e];exact(b.row n).mono (fun _ _=>rfl) (by simp) (by grind) (by simp)
 ·rcases key i x h with ⟨n,e,p⟩|⟨n,e,p⟩<;>rcases key j y J with ⟨G,q,r⟩|⟨G,q,r⟩
  ·rw[p]at f;rw[r]at d;exact a.2.ds i j x y c e q C (by simp) (by simp) f d
  ·rw[p]at f;rw[r]at d;exact D c ((a.row e).own f) ((b.row q).own d)
  ·rw[p]at f;rw[r]at d;exact D c ((a.row q).own d) ((b.row e).own f)
  ·rw[p]at f;rw[r]at d;exact b.2.ds _ _ x y c e q (by omega) (by simp) (by simp) f d
def Ha(w:World)(I J:Nat->Prop)(c t:Ty)(m:List (El c×List (El t)))(v:Value):Prop:=
 ∃(row:El c->Value) (b:Nat) (es:Array MapEntry) (clock:Nat),v=.map (Ua b)/\J b/\w.heap[b]? =Ua (.map es clock)/\Ix es clock/\RF w I J t (Ua b) row (fun k x=>(k,x)∈m) Ub/\(m.map Ve).Nodup/\
  (∀k,k ∉ m.map Ve->row k=.slice Ub 0 0)/\Fa (fun kv e=>(Rd w I c kv.1 e.key.cells.toList/\Kf e.key=c.agg)/\e.val=row kv.1) m es.toList
theorem Ha.mono{w' :World}{I i J j:Nat->Prop}{c t:Ty}{m:List (El c×List (El t))}{v:Value}(p:Km I w w')(k:∀b,I b->i b)(n:∀b,J b->j b)(z:∀b,J b->w'.heap[b]? =w.heap[b]?)(h:Ha w I J c t m v):Ha w' i j c t m v:=by obtain⟨row,b,es,clock,q,r,A,d,s,u,x,y⟩:=h;exact⟨row,b,es,clock,q,n b r,by grind,d,s.mono p k n z,u,x,y.mono fun kv e f=>⟨⟨Rd.mono p k c _ _ f.1.1,f.1.2⟩,f.2⟩⟩
theorem J9.of_obj{J:Nat->Prop}{id u:Nat}{t:Ty}{xs:List (List (El t))}(h:ORel w g J id (.rows t xs u Ub)):J9 w g.I J t xs (g.slv id):=by
 obtain⟨_,_,d,A⟩:=h;have k:∀i x,xs[i]? =Ua x->((Vp xs.length).map fun i:Nat=>g.row id (.int .i64) (i:Int)).getD i undef=g.row id (.int .i64) (i:Int):=by grind
 refine⟨(Vp xs.length).map fun i:Nat=>g.row id (.int .i64) (i:Int),⟨by simp,⟨fun i x c _=>?_,fun i j x y b c n m _ _ f=>?_,by simp⟩⟩,?_⟩
 ·rw[k i x c];exact d.rd i x c (by simp)
 ·rw[k i x c]at f;rw[k j y n];exact d.ds i j x y b c n m (by simp) (by simp) f
 ·rcases A with ⟨D,_,G⟩|⟨b,cap,cs,e,f,p,q,r,s,z,K⟩
  ·grind
  ·refine .inr ⟨b,cap,cs,e,p,fun i x c=>?_,q,r,s,z,fun i L=>?_⟩
   ·rw[k i x c];intro C;exact d.tp i x b c (by simp) C f
   grind
theorem Ha.of_obj{J:Nat->Prop}{id u:Nat}{d t:Ty}{m:List (El d×List (El t))}(h:ORel w g J id (.mrows d t m u Ub)):∃b,g.blk id=Ua b/\Ha w g.I J d t m (.map (Ua b)):=by
 obtain⟨_,_,r,i,c,b,es,clock,q,k,n,f,p⟩:=h;refine⟨b,q,g.row id d,b,es,clock,rfl,k,n,f,?_,i,c,p.mono fun kv e j=>⟨⟨by simpa only[CV] using j.1.1,by simpa [AV.isAgg] using j.1.2⟩,j.2⟩⟩
 grind
def RZ(c:List Value):(b:Ty)->El b->Value:=fun b k=>if h:b=.int .i64 then c.getD ((h▸k:El (.int .i64)):Int).toNat undef else .slice Ub 0 0
theorem ZaX(b:List Value)(i:Nat):RZ b (.int .i64) (i:Int)=b.getD i undef:=by rfl
def rowK{c:Ty}(row:El c->Value):(b:Ty)->El b->Value:=fun b k=>if h:b=c then row (h▸k) else .slice Ub 0 0
theorem Zm9{b:Ty}(row:El b->Value)(k:El b):rowK row b k=row k:=by simp [rowK]
theorem J9.obj{J:Nat->Prop}{t:Ty}{xs:List (List (El t))}{v:Value}(h:J9 w g.I J t xs v)(id:Nat):∃b r,ORel w (g.add id (.sl t) b v r) J id (.rows t xs 0 Ub):=by
 obtain⟨m,⟨Q,f⟩,u⟩:=h;have d:∀b,(g.add id (.sl t) b v (RZ m)).row id=RZ m:=fun b=>by simp [Gh.add]
 rcases u with ⟨rfl,rfl⟩|⟨b,cap,cs,e,z,M,A,C,D,G,N⟩
 ·refine⟨Ub,RZ m,by simp [Gh.add],by simp [Gh.add],?_,.inl ⟨rfl,by simp [Gh.add],by simp [Gh.add]⟩⟩;exact⟨by simp,by simp,by simp⟩
 ·refine⟨Ua b,RZ m,by simp [Gh.add],by simp [Gh.add],?_,.inr ⟨b,cap,cs,e,by simp [Gh.add],z,by simp [Gh.add,A],C,D,G,fun i O=>?_⟩⟩
  ·rw[d];refine⟨fun i x n K=>?_,fun i j x y c n L s p q k=>?_,fun i x c n _ k=>?_⟩
   ·rw[ZaX];exact f.rd i x n K
   ·rw[ZaX]at k⊢;exact f.ds i j x y c n L s p q k
   ·rw[ZaX]at k;simp only[Gh.add,if_true]
    grind
  ·rw[d,ZaX];grind
theorem Ha.obj{J:Nat->Prop}{d t:Ty}{m:List (El d×List (El t))}{b:Nat}(h:Ha w g.I J d t m (.map (Ua b)))(id:Nat):∃r,ORel w (g.add id (.sl t) (Ua b) undef r) J id (.mrows d t m 0 Ub):=by
 obtain⟨row,x,es,clock,j,n,p,f,q,s,y,u⟩:=h;cases j;have c:(g.add id (.sl t) (Ua b) undef (rowK row)).row id d=row:=by funext k;simp [Gh.add,Zm9]
 refine⟨rowK row,by simp [Gh.add],by simp [Gh.add],?_,s,?_,b,es,clock,by simp [Gh.add],n,p,f,?_⟩
 ·rw[c];simpa [Gh.add] using q
 ·grind
 ·rw[c];exact u.mono fun kv e i=>⟨⟨by simp only[CV];exact i.1.1,.inr (by simpa [AV.isAgg] using i.1.2)⟩,i.2⟩
theorem Zfl{t:Ty}{x:AV}{val:Value}{y:List (List (El t))}{ids l l' :List Nat}(e:RH B H w g ow)(c:VR w g x val)(h:(YC t x).run H l=Ua ((y,ids),l')):J9 w g.I (ZL H ow ids) t y val/\(ids=[]\/ ∃id,ids=[id]/\H id≠Ub):=by
 unfold YC at h;split at h
 ·rename_i id;rw[ZX]at h;split at h
  ·rename_i m xs u d;simp only[Zy,Zf,Vd]at h;obtain⟨n,k,⟨rfl,rfl⟩,_⟩:=h;obtain⟨i,rfl⟩:=KE k;cases i;obtain⟨_,j⟩:=c.vw;rw[j];exact⟨(J9.of_obj (e.objs id _ d).2).mono (fun _ _=>rfl) (by simp) (fun b f=>⟨id,by simp,by grind,f⟩) (by simp),by grind⟩
  ·simp [Zb]at h
 ·simp only[Zf,Vd]at h;obtain⟨⟨rfl,rfl⟩,_⟩:=h;exact⟨⟨[],RL.nil,.inl ⟨rfl,c.nils⟩⟩,.inl rfl⟩
 ·simp [Zb]at h
def Gh.bump(g:Gh)(id v:Nat)(r:(b:Ty)->El b->Value):Gh:=
 {g with ver:=fun k=>if k=id then v else g.ver k,row:=fun k=>if k=id then r else g.row k}
theorem Gh.le_bump{g:Gh}{id v:Nat}{r:(b:Ty)->El b->Value}(h:g.ver id<v):g.Le (g.bump id v r) where
 I:=fun _ h=>h
 K:=fun _ h=>h
 ty:=fun _ _=>rfl
 blk:=fun _ _=>rfl
 slv:=fun _ _=>rfl
 ver:=fun k _=>by
  show g.ver k<=if k=id then v else g.ver k
  grind
 row:=fun k _ e=>by
  have e:(if k=id then v else g.ver k)=g.ver k:=e
  show (if k=id then r else g.row k)=g.row k
  grind
theorem RH.bump{w' :World}(h:RH B H w g ow){id v:Nat}{r:(O:Ty)->El O->Value}{C:K1}{J:Nat->Prop}(G:g.K id)(N:g.ver id<v)
 (x:∀b,g.I b\/(∃k,k≠id/\H k≠Ub/\ow k b)->w'.heap[b]? =w.heap[b]?) (M:w.heap.size<=w'.heap.size) (y:w'.os=w.os) (j:w'.tape=w.tape) (m:YK w' w)
 (i:∀b,b<B.w0.heap.size->¬B.own0 b->w'.heap[b]? =w.heap[b]?)
 (D:∀b,J b->¬g.I b/\b<w'.heap.size/\(B.own0 b\/B.w0.heap.size<=b)/\ ∀k,k≠id->H k≠Ub->¬ow k b) (L:ORel w' (g.bump id v r) J id C):RH B (ZY H id (Ua C)) w' (g.bump id v r) (Xd ow id J) where
 objs:=fun k o u=>by
  by_cases c:k=id
  ·subst c;rw[XC]at u;cases u;rw[JZ];exact⟨G,L⟩
  ·rw[Kt c]at u;rw[W4 c];obtain⟨f,e⟩:=h.objs k o u;exact⟨f,e.mono (fun b z=>by grind) (Gh.le_bump N) f (Zg c) (by grind)⟩
 dist:=fun k A b f e n s=>by
  by_cases c:k=id<;>by_cases d:A=id
  ·omega
  ·subst c;rw[Kt d]at e;rw[JZ]at n;rw[W4 d]at s
   grind
  ·subst d;rw[Kt c]at f;rw[JZ]at s;rw[W4 c]at n
   grind
  ·rw[Kt c]at f;rw[Kt d]at e;rw[W4 c]at n;rw[W4 d]at s;exact h.dist k A b f e n s
 sep:=fun k b f e=>by
  by_cases c:k=id
  ·subst c;rw[JZ]at e;obtain⟨p,q,r,_⟩:=D b e;exact⟨p,q,r⟩
  ·rw[Kt c]at f;rw[W4 c]at e;obtain⟨p,q,r⟩:=h.sep k b f e;exact⟨p,by omega,r⟩
 ilt:=fun b z=>by have:=h.ilt b z;omega
 inew:=h.inew
 os:=y.trans h.os
 tape:=j.trans h.tape
 output:=m.trans h.output
 size:=by have:=h.size;omega
 kept:=fun b f e=>(i b f e).trans (h.kept b f e)
theorem Znd{I J:Nat->Prop}{t:Ty}{xs:List (El t)}{k:Value}(h:Wp w I J t xs k){i:Nat}{x:El t}(u:xs[i]? =Ua x):
 ∃b cap cs e css c,k=.slice (Ua ⟨b,0,Ub⟩) xs.length cap/\J b/\w.heap[b]? =Ua (.cells cs e (0,0))/\xs.length<=cap/\cap*t.size<=cs.size/\
  Fa (Rd w I t) xs css/\css[i]? =Ua c/\Rd w I t x c/\ ∃r,cs.toList=(css.take i).flatten++c++((css.drop (i+1)).flatten++r)/\(css.take i).flatten.length=i*t.size/\
   ∀c',(css.set i c').flatten++r=(css.take i).flatten++c' ++((css.drop (i+1)).flatten++r):=by
 rcases h with ⟨rfl,_⟩|⟨b,cap,cs,e,css,n,m,p,q,s,d,r,z⟩
 ·grind
 ·obtain⟨c,j,f⟩:=d.get i x u;obtain⟨A,y,C⟩:=RO j t.size (Rd.all_length d);exact⟨b,cap,cs,e,css,c,n,m,p,q,s,d,j,f,r,by grind,y,by grind⟩
theorem Zd5(z:RH B H w g ow){id ver:Nat}{p:Ty}{k:El p}(_hK:g.K id){r:(t:Ty) ×List (El t)}{l l' :List Nat}(h:(Yn id ver p k).run H l=Ua (r,l')):
 H id≠Ub/\g.ty id=.sl r.1/\g.ver id=ver/\Wp w g.I (ow id) r.1 r.2 (g.row id p k):=by
 simp only[Yn]at h;rw[ZX]at h;split at h
 ·rename_i t xs u n;simp only[ZJ,Zy,Zf,Zb,ZP,Z6]at h;obtain⟨d,i,C,x,s,rfl,_⟩:=h;have d:=Via d;obtain⟨rfl,rfl⟩:=KE C;obtain⟨_,j,b,c,_⟩:=z.objs id _ n;unfold idx at s;split at s
  ·rename_i G;have J:=c.rd i.toNat x s (by simp)
   grind
  grind
 ·rename_i D t m u n;simp only[ZJ,Zy,Zf,Zb,ZP,Z6,Va]at h;obtain⟨⟨d,f⟩,y,q,rfl,_⟩:=h;have d:=Via d;obtain⟨rfl,rfl⟩:=KE q;obtain⟨_,j,b,c,_,e,_⟩:=z.objs id _ n;rw[n];refine⟨by simp,j,b.trans d,?_⟩;simp only
  cases A:ZT (Zm p) y m with
  |none=>exact .inl ⟨rfl,e y (Zbi (DY f) A)⟩
  |some x=>exact c.rd y x (Zeb (DY f) A) (by simp)
 ·simp [Zb]at h
theorem Zbf(e:RH B H w g ow){id ver:Nat}{b:Ty}{k:El b}{v:Value}(f:VR w g (.nw id ver b k) v){r:(t:Ty) ×List (El t)}{l l' :List Nat}(h:(Yn id ver b k).run H l=Ua (r,l')):
 H id≠Ub/\g.ty id=.sl r.1/\g.ver id=ver/\v=g.row id b k/\Wp w g.I (ow id) r.1 r.2 v:=by
 obtain⟨d,_,_,c⟩:=f.nw;obtain⟨i,j,m,n⟩:=Zd5 e d h
 grind
end
end Tr
end
