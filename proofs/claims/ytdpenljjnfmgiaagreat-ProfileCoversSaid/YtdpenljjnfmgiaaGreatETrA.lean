/- The data of the abstract machine: type codes, their Lean types, what it means that cells of memory read as a datum; abstract values, and what it means that a value of the model is one. Conditions: none (definitions and monotonicity). -/
import Derived.Orders
import Derived.Laws.Cells
import Derived.Laws.CopyRow
import Derived.Laws.Tables
import Derived.Laws.Rows
import Derived.Laws.World
import Derived.Laws.AppendOwn
open Array renaming length_toList ->Vo,toList_push ->Vna,toList ->Vya
open BitVec renaming ofInt ->Vp
open Bool renaming and_eq_true ->Va,false_eq_true ->Vq,not_eq_true' ->Vfa,not_eq_true ->Vsa,not_false ->Vwa,and_true ->Vxa
open Go.Instr renaming sureAddr ->Vv,storeAt ->Vha
open List renaming length_append ->Vi,isEmpty_iff ->Vr,getElem?_append_right ->Vs,range ->Vt,getElem?_eq_some_iff ->Vu,map_cons ->Vx,take_append_drop ->Vy,append_inj ->Vz,replicate ->Vba,getD_eq_getElem?_getD ->Vca,drop_eq_getElem_cons ->Vea,getElem?_append_left ->Vga,mem_append ->Vja,mem_cons ->Vma,nodup_append ->Voa,flatten_cons ->Vpa,append_assoc ->Vqa,all_eq_true ->Vra,map_append ->Vta,nodup_cons ->Vva,mem_map ->Vza
open Nat renaming beq ->Vd,blt ->Vk,le_refl ->Vm,eq_of_beq_eq_true ->Vn,le_trans ->Vaa,ble ->Vda,le_of_ble_eq_true ->Vka
open Option renaming bind_eq_some_iff ->Via
open Prod renaming fst ->Vg,snd ->Vua,ext ->Vab
open Prod.mk renaming injEq ->Vb,inj ->Vf
open Go.Result renaming andThen_ok ->Ve
open Go.Sem renaming run_bind ->Vh,run_pure ->Vj
open Go.Value renaming oneCell' ->Vc,cells ->Vl,pointer ->Vla,slice ->Vbb
open Go.World renaming cell? ->Vw
open Option renaming some ->Ua,none ->Ub
open Bool renaming true ->Uc,false ->Ud
open Decidable renaming decide ->Ue
section
namespace Tr
theorem Zi{p:Prop}[Decidable p](h:p):decide p=true:=decide_eq_true h
theorem Zt{p:Prop}[Decidable p](h:¬p):decide p=false:=decide_eq_false h
theorem Za{α:Type _}{β:Type _}(a:α)(f:α->Option β):(Ua a).bind f=f a:=rfl
theorem Zd{α:Sort _}(a b:α):cond Uc a b=a:=rfl
theorem Ze{α:Sort _}(a b:α):cond Ud a b=b:=rfl
theorem Zn{c:Prop}{h:Decidable c}(k:c){α:Sort _}{t e:α}:ite c t e=t:=if_pos k
theorem Zg{c:Prop}{h:Decidable c}(k:¬c){α:Sort _}{t e:α}:ite c t e=e:=if_neg k
theorem Kx{p:Prop}[Decidable p]:(decide p=Uc)=p:=decide_eq_true_eq
theorem ZU(p:Prop):(p/\False)=False:=and_false p
theorem Ka(p:Prop):(p\/False)=p:=or_false p
theorem Ki{α:Type _}[BEq α][LawfulBEq α]{a b:α}:a==b↔a=b:=beq_iff_eq
theorem Xy{p:Prop}[Decidable p](h:decide p=Uc):p:=of_decide_eq_true h
theorem ZL{α:Type _}(a b:α):(Ua a=Ua b)=(a=b):=Option.some.injEq a b
theorem KO{α:Type _}{a b:α}(h:Ua a=Ua b):a=b:=Option.some.inj h
theorem Xx{α:Type _}(a:α)(l:List α)(b:α)(m:List α):(a::l=b::m)=(a=b/\l=m):=List.cons.injEq a l b m
open Go
inductive Ty where
 |int (k:IntKind)
 |bool
 |str
 |sl (t:Ty)
 |unit
 |prod (a b:Ty)
 |arr (n:Nat) (t:Ty)
 |ref
 |pt (t:Ty)
 |lk (a b:Ty)
 |pn (t:Ty)
 deriving DecidableEq
@[reducible] def El:Ty->Type
  |.int _=>Int
  |.bool=>Bool
  |.str=>List UInt8
  |.sl t=>List (El t)
  |.unit=>Unit
  |.prod a b=>El a×El b
  |.arr _ t=>List (El t)
  |.ref=>Unit
  |.pt t=>Option (El t)
  |.lk a b=>List (El a×El b)
  |.pn t=>Option (Nat×El t)
def Ty.size:Ty->Nat
 |.unit=>0
 |.prod a b=>a.size+b.size
 |.arr n t=>n*t.size
 |_=>1
def Ty.agg:Ty->Bool
 |.unit=>Uc
 |.prod _ _=>Uc
 |.arr _ _=>Uc
 |_=>Ud
def KB(w:World)(b off:Nat)(l:List Value):Prop:= ∀j,(h:j<l.length)->w.cell? ⟨b,off+j,Ub⟩=Ua l[j]
def Fa{α β:Type}(r:α->β->Prop):List α->List β->Prop
 |[],[]=>True
 |a::l,b::m=>r a b/\Fa r l m
 |_,_=>False
def HD(w:World)(I:Nat->Prop){α:Type}(r:α->List Value->Prop):Option α->List Value->Prop
 |none,cs=>cs=[.pointer Ub]
 |some y,cs=>∃b cells e,cs=[.pointer (Ua ⟨b,0,Ub⟩)]/\I b/\w.heap[b]? =Ua (.cells cells e (0,0))/\r y cells.toList
def YK(w:World)(I:Nat->Prop){α:Type}(r:α->List Value->Prop):Option (Nat×α)->List Value->Prop
 |none,cs=>cs=[.pointer Ub]
 |some y,cs=>∃cells e,cs=[.pointer (Ua ⟨y.1,0,Ub⟩)]/\I y.1/\w.heap[y.1]? =Ua (.cells cells e (0,0))/\r y.2 cells.toList
def XO(w:World)(I:Nat->Prop){α β:Type}(e:α->List Value->Prop)(f:β->List Value->Prop):List (α×β)->List Value->Prop
 |[],cs=>cs=[.pointer Ub]
 |y::l,cs=>∃b off c cl d,cs=[.pointer (Ua ⟨b,off,Ub⟩)]/\I b/\KB w b off (c++(cl++d))/\e y.1 c/\XO w I e f l cl/\f y.2 d
def Rd(w:World)(I:Nat->Prop):(t:Ty)->El t->List Value->Prop
 |.int k,x,cs=>cs=[.int k x]
 |.bool,x,cs=>cs=[.bool x]
 |.str,x,cs=>cs=[.string ⟨x.toArray⟩]
 |.sl t,x,cs=>∃a cap c,cs=[.slice a x.length cap]/\Fa (Rd w I t) x c/\(x≠ []->∃b off,a=Ua ⟨b,off,Ub⟩/\I b/\KB w b off c.flatten)/\x.length<=cap
 |.unit,_,cs=>cs=[]
 |.prod a b,x,cs=>∃d e,cs=d++e/\Rd w I a x.1 d/\Rd w I b x.2 e
 |.arr n t,x,cs=>x.length=n/\∃c,cs=c.flatten/\Fa (Rd w I t) x c
 |.ref,_,_=>False
 |.pt t,x,cs=>HD w I (Rd w I t) x cs
 |.lk a b,x,cs=>XO w I (Rd w I a) (Rd w I b) x cs
 |.pn t,x,cs=>YK w I (Rd w I t) x cs
theorem Fa.mono{α β:Type}{r s:α->β->Prop}(h:∀a b,r a b->s a b):∀{l:List α}{m:List β},Fa r l m->Fa s l m
 |[],[],_=>trivial
 |_::_,_::_,⟨p,q⟩=>⟨h _ _ p,Fa.mono h q⟩
theorem Fa.length{α β:Type}{r:α->β->Prop}:∀{l:List α}{m:List β},Fa r l m->l.length=m.length
 |[],[],_=>rfl
 |_::_,_::_,⟨_,q⟩=>by simp [Fa.length q]
theorem Fa.get{α β:Type}{r:α->β->Prop}:∀{l:List α}{m:List β} (_:Fa r l m) (i:Nat) (a:α),l[i]? =Ua a->∃b,m[i]? =Ua b/\r a b
 |[],[],_,i,a,h=>by grind
 |x::l,y::m,⟨p,q⟩,i,a,h=>by
  cases i with
  |zero=>grind
  |succ i=>simp at h;obtain⟨b,c,d⟩:=Fa.get q i a h;grind
theorem Fa.append{α β:Type}{r:α->β->Prop}:∀{l l' :List α}{m b:List β},Fa r l m->Fa r l' b->Fa r (l++l') (m++b)
 |[],_,[],_,_,h=>h
 |_::_,_,_::_,_,⟨p,q⟩,h=>⟨p,Fa.append q h⟩
theorem Fa.take{α β:Type}{r:α->β->Prop}:∀{l:List α}{m:List β} (n:Nat),Fa r l m->Fa r (l.take n) (m.take n)
 |[],[],n,_=>by grind
 |_::_,_::_,0,_=>by simp [Fa]
 |_::_,_::_,n+1,⟨p,q⟩=>by simp only[List.take_succ_cons];exact⟨p,Fa.take n q⟩
theorem Fa.drop{α β:Type}{r:α->β->Prop}:∀{l:List α}{m:List β} (n:Nat),Fa r l m->Fa r (l.drop n) (m.drop n)
 |[],[],n,_=>by grind
 |_::_,_::_,0,h=>h
 |_::_,_::_,n+1,⟨_,q⟩=>by simp only[List.drop_succ_cons];exact Fa.drop n q
theorem Fa.set{α β:Type}{r:α->β->Prop}:∀{l:List α}{m:List β} (n:Nat) {a:α}{b:β},Fa r l m->r a b->Fa r (l.set n a) (m.set n b)
 |[],[],_,_,_,_,_=>by grind
 |_::_,_::_,0,_,_,⟨_,q⟩,h=>⟨h,q⟩
 |_::_,_::_,n+1,_,_,⟨p,q⟩,h=>⟨p,Fa.set n q h⟩
theorem Fa.eraseIdx{α β:Type}{r:α->β->Prop}:∀{l:List α}{m:List β} (n:Nat),Fa r l m->Fa r (l.eraseIdx n) (m.eraseIdx n)
 |[],[],_,_=>trivial
 |_::_,_::_,0,⟨_,q⟩=>q
 |_::_,_::_,n+1,⟨p,q⟩=>⟨p,Fa.eraseIdx n q⟩
def Kq(I:Nat->Prop)(w w' :World):Prop:= ∀b,I b->w'.heap[b]? =w.heap[b]?
theorem Zq4{w w' :World}{a:Addr}(h:w'.heap[a.block]? =w.heap[a.block]?):w'.cell? a=w.cell? a:=by simp [Vw,h]
theorem KB.mono{w w' :World}{b off:Nat}{l:List Value}(h:w'.heap[b]? =w.heap[b]?)(d:KB w b off l):KB w' b off l:=by intro j c;rw[Zq4 (by simpa using h)];exact d j c
theorem HD.mono{w w' :World}{I d:Nat->Prop}{α:Type}{r i:α->List Value->Prop}(q:Kq I w w')(n:∀b,I b->d b)(p:∀x c,r x c->i x c):∀(x:Option α) (cs:List Value),HD w I r x cs->HD w' d i x cs
 |none,_,h=>h
 |some _,_,⟨b,c,e,j,f,k,m⟩=>⟨b,c,e,j,n _ f,(q _ f).trans k,p _ _ m⟩
theorem XO.mono{w w' :World}{I f:Nat->Prop}{α β:Type}{p d:α->List Value->Prop}{q e:β->List Value->Prop}(n:Kq I w w')(j:∀b,I b->f b)(k:∀x c,p x c->d x c)(m:∀x c,q x c->e x c):∀(x:List (α×β)) (cs:List Value),XO w I p q x cs->XO w' f d e x cs
 |[],_,h=>h
 |_::l,_,⟨b,off,r,cl,s,u,i,y,z,A,C⟩=>⟨b,off,r,cl,s,u,j _ i,y.mono (n _ i),k _ _ z,XO.mono n j k m l cl A,m _ _ C⟩
theorem YK.mono{w w' :World}{I d:Nat->Prop}{α:Type}{r i:α->List Value->Prop}(q:Kq I w w')(n:∀b,I b->d b)(p:∀x c,r x c->i x c):∀(x:Option (Nat×α)) (cs:List Value),YK w I r x cs->YK w' d i x cs
 |none,_,h=>h
 |some _,_,⟨c,e,j,f,k,m⟩=>⟨c,e,j,n _ f,(q _ f).trans k,p _ _ m⟩
theorem YK.length{w:World}{I:Nat->Prop}{α:Type}{r:α->List Value->Prop}:∀{x:Option (Nat×α)}{cs:List Value},YK w I r x cs->∃a,cs=[.pointer a]
 |none,_,h=>⟨_,h⟩
 |some _,_,⟨_,_,h,_⟩=>⟨_,h⟩
theorem HD.length{w:World}{I:Nat->Prop}{α:Type}{r:α->List Value->Prop}:∀{x:Option α}{cs:List Value},HD w I r x cs->∃a,cs=[.pointer a]
 |none,_,h=>⟨_,h⟩
 |some _,_,⟨_,_,_,h,_⟩=>⟨_,h⟩
theorem XO.length{w:World}{I:Nat->Prop}{α β:Type}{b:α->List Value->Prop}{c:β->List Value->Prop}:∀{x:List (α×β)}{cs:List Value},XO w I b c x cs->∃a,cs=[.pointer a]
 |[],_,h=>⟨_,h⟩
 |_::_,_,⟨_,_,_,_,_,h,_⟩=>⟨_,h⟩
theorem Rd.mono{w w' :World}{I q:Nat->Prop}(e:Kq I w w')(d:∀b,I b->q b):∀(t:Ty) (x:El t) (cs:List Value),Rd w I t x cs->Rd w' q t x cs
 |.int _,_,_,h=>h
 |.bool,_,_,h=>h
 |.str,_,_,h=>h
 |.sl t,x,cs,h=>by
  obtain⟨a,cap,i,j,k,m,C⟩:=h;refine⟨a,cap,i,j,k.mono λy c f=>Rd.mono e d t y c f,λp=>?_,C⟩;obtain⟨b,off,z,r,A⟩:=m p
  exact⟨b,off,z,d _ r,A.mono (e _ r)⟩
 |.unit,_,_,h=>h
 |.prod a b,x,cs,h=>by
  obtain⟨s,u,j,k,m⟩:=h
  exact⟨s,u,j,Rd.mono e d a _ _ k,Rd.mono e d b _ _ m⟩
 |.arr n t,x,cs,h=>by
  obtain⟨j,i,k,m⟩:=h
  exact⟨j,i,k,m.mono λy c f=>Rd.mono e d t y c f⟩
 |.ref,_,_,h=>h.elim
 |.pt t,x,cs,h=>HD.mono e d (λy c f=>Rd.mono e d t y c f) x cs h
 |.lk a b,x,cs,h=>XO.mono e d (λy c f=>Rd.mono e d a y c f) (λy c f=>Rd.mono e d b y c f) x cs h
 |.pn t,x,cs,h=>YK.mono e d (λy c f=>Rd.mono e d t y c f) x cs h
theorem Yt{css:List (List Value)}{n:Nat}(h:∀c∈css,c.length=n):css.flatten.length=css.length*n:=by
 induction css with
 |nil=>simp
 |cons c l b=>
  grind
theorem Fa.all_right{α β:Type}{r:α->β->Prop}{p:β->Prop}(d:∀a b,r a b->p b):∀{l:List α}{m:List β},Fa r l m->∀b∈m,p b
 |[],[],_=>by simp
 |_::_,y::m,⟨h,q⟩=>by
  intro b c;simp at c;rcases c with rfl|c
  ·grind
  ·exact Fa.all_right d q b c
theorem Rd.length{w:World}{I:Nat->Prop}:∀(t:Ty) (x:El t) (cs:List Value),Rd w I t x cs->cs.length=t.size
 |.int _,_,_,h=>by rw[h];rfl
 |.bool,_,_,h=>by rw[h];rfl
 |.str,_,_,h=>by rw[h];rfl
 |.sl t,x,cs,h=>by
  obtain⟨a,cap,f,d,_⟩:=h
  rw[d];rfl
 |.unit,_,_,h=>by rw[h];rfl
 |.prod a b,x,cs,h=>by
  obtain⟨k,m,d,i,e⟩:=h
  rw[d,Vi,Rd.length a _ _ i,Rd.length b _ _ e];rfl
 |.arr n t,x,cs,h=>by
  obtain⟨d,f,i,e⟩:=h
  rw[i,Yt (e.all_right λy c j=>Rd.length t y c j),<-e.length,d];rfl
 |.ref,_,_,h=>h.elim
 |.pt t,x,cs,h=>by obtain⟨a,rfl⟩:=HD.length h;rfl
 |.lk a b,x,cs,h=>by obtain⟨p,rfl⟩:=XO.length h;rfl
 |.pn t,x,cs,h=>by obtain⟨a,rfl⟩:=YK.length h;rfl
theorem Rd.all_length{w:World}{I:Nat->Prop}{t:Ty}{x:List (El t)}{css:List (List Value)}(h:Fa (Rd w I t) x css):∀c∈css,c.length=t.size:=
 h.all_right λy c b=>Rd.length t y c b
mutual
inductive AV where
 |d (t:Ty) (x:El t)
 |junk
 |tup (l:Zo)
 |agg (l:Zo)
 |dp (t:Ty) (x:El t)
 |ptr (id:Nat) (path:List Nat)
 |vw (id:Nat)
 |vs (id e n:Nat)
 |vp (id i:Nat) (path:List Nat)
 |mp (id:Nat)
 |fn (f:FuncId) (c:Zo)
 |nilr (p:Bool)
 |nils
 |jk (n:Nat)
 |nw (id ver:Nat) (b:Ty) (k:El b)
 |np (id ver:Nat) (b:Ty) (k:El b) (i:Nat) (path:List Nat)
 |op (id i:Nat)
inductive Zo where
 |nil
 |cons (v:AV) (l:Zo)
end
def ZX:Ty->List Nat->Option (Nat×Ty)
 |t,[]=>Ua (0,t)
 |.prod a b,i::p=>match i with
  |0=>ZX a p
  |n+1=>(ZX b (n::p)).map λr=>(r.1+a.size,r.2)
 |.arr n t,i::p=>if i<n then(ZX t p).map λr=>(r.1+i*t.size,r.2) else Ub
 |_,_::_=>Ub
def Hx:Ty->List Nat->Option Ty
 |t,[]=>Ua t
 |.prod a b,i::p=>match i with
  |0=>Hx a p
  |n+1=>Hx b (n::p)
 |.arr _ t,_::p=>Hx t p
 |_,_::_=>Ub
structure Gh where
 I:Nat->Prop
 K:Nat->Prop
 ty:Nat->Ty
 blk:Nat->Option Nat
 slv:Nat->Value
 ver:Nat->Nat
 row:Nat->(kt:Ty)->El kt->Value
structure Gh.Le (g g' :Gh):Prop where
 I:∀b,g.I b->g'.I b
 K:∀id,g.K id->g'.K id
 ty:∀id,g.K id->g'.ty id=g.ty id
 blk:∀id,g.K id->g'.blk id=g.blk id
 slv:∀id,g.K id->g'.slv id=g.slv id
 ver:∀id,g.K id->g.ver id<=g'.ver id
 row:∀id,g.K id->g'.ver id=g.ver id->g'.row id=g.row id
theorem Gh.Le.refl(g:Gh):g.Le g:=⟨λ_ h=>h,λ_ h=>h,by simp,by simp,by simp,by omega,by simp⟩
theorem Gh.Le.trans{a b c:Gh}(h:a.Le b)(k:b.Le c):a.Le c:=
 ⟨λi p=>k.I _ (h.I i p),λi p=>k.K _ (h.K i p),λi p=>(k.ty _ (h.K i p)).trans (h.ty i p),λi p=>(k.blk _ (h.K i p)).trans (h.blk i p),λi p=>(k.slv _ (h.K i p)).trans (h.slv i p),λi p=>Vaa (h.ver i p) (k.ver _ (h.K i p)),λi p e=>by have d:=h.ver i p;have f:=k.ver _ (h.K i p);exact(k.row _ (h.K i p) (by omega)).trans (h.row i p (by omega))⟩
def Re:Ty->Ty
 |.sl t=>t
 |t=>t
def Zcc(v:Value)(size c n:Nat)(cs:List Value):Prop:=
 (v=.slice Ub 0 0/\c=0/\n=0/\cs=[.slice Ub 0 0])\/
 ∃b len cap m,v=.slice (Ua ⟨b,0,Ub⟩) len cap/\c+n<=len/\n<=m/\c+m<=cap/\cs=[.slice (Ua ⟨b,if m=0 then 0 else c*size,Ub⟩) n m]
def WQ:Nat:=1000
def Gu(f:FuncId):FuncId:=bif Vk f WQ then f else f - WQ
def Xa(f:FuncId)(b:List Value):Value:=bif Vk f WQ then .func (.func f) #[] b.toArray else .func (.func (f - WQ)) b.toArray #[]
theorem ZbL(f:FuncId)(b:List Value):(Vk f WQ=Uc/\Xa f b=.func (.func f) #[] b.toArray)\/(Vk f WQ=Ud/\Xa f b=.func (.func (f - WQ)) b.toArray #[]):=by
 unfold Xa;cases h:Vk f WQ<;>simp
theorem Ztg(f:FuncId)(b:List Value):(Xa f b).oneCell'=true:=by
 rcases ZbL f b with ⟨_,h⟩|⟨_,h⟩<;>rw[h]<;>rfl
theorem Zte(f:FuncId)(b:List Value):(Xa f b).cells= #[Xa f b]:=by
 rcases ZbL f b with ⟨_,h⟩|⟨_,h⟩<;>rw[h]<;>rfl
theorem Ztf{f:FuncId}{c b:List Value}(h:Xa f c=Xa f b):c=b:=by
 unfold Xa at h;cases d:Vk f WQ<;>rw[d]at h
 ·simp only[Ze,Value.func.injEq,true_and,and_true]at h;simpa using congrArg Vya h
 ·simp only[Zd,Value.func.injEq,true_and]at h;simpa using congrArg Vya h
mutual
def CV(w:World)(g:Gh):AV->List Value->Prop
 |.d t x,cs=>Rd w g.I t x cs
 |.junk,_=>True
 |.tup _,_=>False
 |.agg l,cs=>Kg w g l cs
 |.dp t x,cs=>∃b off c,cs=[.pointer (Ua ⟨b,off,Ub⟩)]/\g.I b/\KB w b off c/\Rd w g.I t x c
 |.ptr id p,cs=>g.K id/\∃o t b,ZX (g.ty id) p=Ua (o,t)/\g.blk id=Ua b/\cs=[.pointer (Ua ⟨b,o,Ub⟩)]
 |.vw id,cs=>g.K id/\cs=[g.slv id]/\(g.slv id).oneCell'=Uc
 |.vs id q n,cs=>g.K id/\Zcc (g.slv id) (g.ty id).size q n cs
 |.vp id i p,cs=>g.K id/\∃o t b,ZX (g.ty id) p=Ua (o,t)/\g.blk id=Ua b/\cs=[.pointer (Ua ⟨b,i* (g.ty id).size+o,Ub⟩)]
 |.mp id,cs=>g.K id/\∃b,g.blk id=Ua b/\cs=[.map (Ua b)]
 |.fn f l,cs=>∃m:List Value,cs=[Xa f m]/\Kg w g l m
 |.nilr p,cs=>cs=[.pointer Ub]\/p=Ud/\cs=[.nilFunc]\/p=Ud/\cs=[.map Ub]
 |.nils,cs=>cs=[.slice Ub 0 0]
 |.jk n,cs=>cs.length=n/\∀v∈cs,v.oneCell' =Uc
 |.nw id ver e k,cs=>g.K id/\ver<=g.ver id/\∃v,cs=[v]/\v.oneCell' =Uc/\(g.ver id=ver->v=g.row id e k)
 |.np id ver e k i p,cs=>g.K id/\ver<=g.ver id/\∃a,cs=[.pointer (Ua a)]/\(g.ver id=ver->∃b len cap o t,g.row id e k=.slice (Ua ⟨b,0,Ub⟩) len cap/\ZX (Re (g.ty id)) p=Ua (o,t)/\a=⟨b,i* (Re (g.ty id)).size+o,Ub⟩)
 |.op id i,cs=>g.K id/\∃b off len cap,g.slv id=.slice (Ua ⟨b,off,Ub⟩) len cap/\cs=[.pointer (Ua ⟨b,off+i,Ub⟩)]
def Kg(w:World)(g:Gh):Zo->List Value->Prop
 |.nil,cs=>cs=[]
 |.cons v l,cs=>∃h j,cs=h++j/\CV w g v h/\Kg w g l j
end
theorem ZbT{w:World}{g:Gh}{p:Bool}{cs:List Value}(h:CV w g (.nilr p) cs):cs=[.pointer Ub]\/cs=[.nilFunc]\/cs=[.map Ub]:=by
 simp only[CV]at h;rcases h with h|⟨_,h⟩|⟨_,h⟩
 ·exact .inl h
 ·exact .inr (.inl h)
 ·exact .inr (.inr h)
theorem ZmB{w:World}{g:Gh}{cs:List Value}(h:CV w g (.nilr Uc) cs):cs=[.pointer Ub]:=by
 simp only[CV]at h;rcases h with h|⟨h,_⟩|⟨h,_⟩
 ·exact h
 ·cases h
 ·cases h
mutual
theorem CV.mono{w w' :World}{g z:Gh}(u:Kq g.I w w')(j:g.Le z):∀(v:AV) (cs:List Value),CV w g v cs->CV w' z v cs
 |.d t x,cs,h=>Rd.mono u j.I t x cs h
 |.junk,_,_=>by simp [CV]
 |.tup _,_,h=>by simp [CV]at h
 |.agg l,cs,h=>by simp only[CV]at h⊢;exact Kg.mono u j l cs h
 |.dp t x,cs,h=>by
  simp only[CV]at h⊢;obtain⟨b,off,c,q,r,s,J⟩:=h
  exact⟨b,off,c,q,j.I _ r,s.mono (u _ r),Rd.mono u j.I t x c J⟩
 |.ptr id p,cs,h=>by
  simp only[CV]at h⊢;obtain⟨m,o,t,b,q,r,s⟩:=h
  exact⟨j.K _ m,o,t,b,by rw[j.ty _ m];exact q,by rw[j.blk _ m];exact r,s⟩
 |.vw id,cs,h=>by
  simp only[CV]at h⊢
  exact⟨j.K _ h.1,by rw[j.slv _ h.1];exact h.2⟩
 |.vs id M n,cs,h=>by
  simp only[CV]at h⊢
  exact⟨j.K _ h.1,by rw[j.slv _ h.1,j.ty _ h.1];exact h.2⟩
 |.vp id i p,cs,h=>by
  simp only[CV]at h⊢;obtain⟨m,o,t,b,q,r,s⟩:=h
  exact⟨j.K _ m,o,t,b,by rw[j.ty _ m];exact q,by rw[j.blk _ m];exact r,by rw[j.ty _ m];exact s⟩
 |.mp id,cs,h=>by
  simp only[CV]at h⊢;obtain⟨m,b,q,r⟩:=h
  exact⟨j.K _ m,b,by rw[j.blk _ m];exact q,r⟩
 |.fn f l,cs,h=>by
  simp only[CV]at h⊢;obtain⟨G,q,r⟩:=h
  exact⟨G,q,Kg.mono u j l G r⟩
 |.nilr _,_,h=>by simpa only[CV] using h
 |.nils,_,h=>by simpa only[CV] using h
 |.jk _,_,h=>by simpa only[CV] using h
 |.nw id ver L k,cs,h=>by
  simp only[CV]at h⊢;obtain⟨m,A,v,q,r,s⟩:=h;have y:=j.ver _ m
  exact⟨j.K _ m,Vaa A y,v,q,r,λe=>by rw[j.row _ m (by omega)];exact s (by omega)⟩
 |.np id ver L k i p,cs,h=>by
  simp only[CV]at h⊢;obtain⟨m,A,a,q,s⟩:=h;have y:=j.ver _ m
  exact⟨j.K _ m,Vaa A y,a,q,λe=>by rw[j.row _ m (by omega),j.ty _ m];exact s (by omega)⟩
 |.op id i,cs,h=>by simp only[CV]at h⊢;exact⟨j.K _ h.1,by rw[j.slv _ h.1];exact h.2⟩
theorem Kg.mono{w w' :World}{g z:Gh}(u:Kq g.I w w')(j:g.Le z):∀(l:Zo) (cs:List Value),Kg w g l cs->Kg w' z l cs
 |.nil,_,h=>by simpa only[Kg] using h
 |.cons v l,cs,h=>by simp only[Kg]at h⊢;obtain⟨C,D,q,r,s⟩:=h;exact⟨C,D,q,CV.mono u j v C r,Kg.mono u j l D s⟩
end
def AV.isAgg:AV->Bool
 |.d t _=>t.agg
 |.agg _=>Uc
 |_=>Ud
def Kd:Value->Bool
 |.agg _=>Uc
 |_=>Ud
theorem Zlt(f:FuncId)(b:List Value):Kd (Xa f b)=false:=by
 rcases ZbL f b with ⟨_,h⟩|⟨_,h⟩<;>rw[h]<;>rfl
def Ku(w:World)(g:Gh)(a:AV)(v:Value):Prop:=CV w g a v.cells.toList/\(a=.junk\/Kd v=a.isAgg)
def W8(w:World)(g:Gh):Zo->List Value->Prop
 |.nil,vs=>vs=[]
 |.cons a l,vs=>∃v r,vs=v::r/\Ku w g a v/\W8 w g l r
def VR(w:World)(g:Gh):AV->Value->Prop
 |.tup l,v=>∃vs:List Value,v=.tuple vs.toArray/\W8 w g l vs
 |a,v=>Ku w g a v
theorem Ku.mono{w w' :World}{g b:Gh}(d:Kq g.I w w')(c:g.Le b){a:AV}{v:Value}(h:Ku w g a v):Ku w' b a v:=⟨CV.mono d c _ _ h.1,h.2⟩
theorem W8.mono{w w' :World}{g b:Gh}(d:Kq g.I w w')(c:g.Le b):∀{l:Zo}{vs:List Value},W8 w g l vs->W8 w' b l vs
 |.nil,_,h=>h
 |.cons _ _,_,h=>by obtain⟨v,r,e,f,i⟩:=h;exact⟨v,r,e,f.mono d c,i.mono d c⟩
theorem VR.mono{w w' :World}{g b:Gh}(d:Kq g.I w w')(c:g.Le b){a:AV}{v:Value}(h:VR w g a v):VR w' b a v:=by
 cases a with
 |tup l=>obtain⟨vs,e,f⟩:=h;exact⟨vs,e,f.mono d c⟩
 |_=>exact Ku.mono d c h
theorem HH{w:World}{g:Gh}{v:Value}:VR w g .junk v:=⟨by simp [CV],.inl rfl⟩
end Tr
end
section
namespace Tr
open Go
@[reducible] def ZQ (tn tq lt lb:Ty):Type:=El tn×El tq×El lt×List (List (El lb))×List (El lb)×List (El lb)
def Jk(tn tq lt lb:Ty):Ty:=.prod tn (.prod tq (.prod lt (.prod (.sl (.sl (.pn lb))) (.prod (.sl (.pn lb)) (.prod (.sl (.pn lb)) .unit)))))
def Ye(tn tq lt lb:Ty):Ty:=.prod tn (.prod tq (.prod lt (.prod (.sl (.sl (.pt lb))) (.prod (.sl (.pt lb)) (.prod (.sl (.pt lb)) .unit)))))
def Ze1(tn tq lt:Ty){lb:Ty}(x:ZQ tn tq lt lb):AV:=.agg (.cons (.d tn x.1) (.cons (.d tq x.2.1) (.cons (.d lt x.2.2.1) (.cons (.jk 1) (.cons (.jk 1) (.cons (.jk 1) .nil))))))
inductive K5 where
 |var (t:Ty) (c:AV)
 |vec (t:Ty) (xs:List (El t))
 |map (kt vt:Ty) (m:List (El kt×El vt))
 |rows (t:Ty) (xs:List (List (El t))) (ver:Nat) (hole:Option Nat)
 |mrows (kt t:Ty) (m:List (El kt×List (El t))) (ver:Nat) (hole:Option (El kt))
 |rng (kt vt:Ty) (rest:List (El kt×El vt)) (cur:Option (El kt×El vt))
 |dat (t:Ty) (xs:List (El t))
 |vco (lb:Ty) (xs:List (El (.pn lb)))
 |fnd (tn tq lt lb:Ty) (x:ZQ tn tq lt lb)
mutual
def AV.fits:AV->Ty->Bool
 |.d c _,t=>c==t
 |.agg l,t=>l.fits t
 |.jk n,t=>n==t.size
 |.junk,_=>Ud
 |.tup _,_=>Ud
 |.vw _,.sl _=>Uc
 |.vs _ _ _,.sl _=>Uc
 |.nw _ _ _ _,.sl _=>Uc
 |.np _ _ _ _ _ _,.ref=>Uc
 |.nils,.sl _=>Uc
 |.dp _ _,.ref=>Uc
 |.ptr _ _,.ref=>Uc
 |.vp _ _ _,.ref=>Uc
 |.mp _,.ref=>Uc
 |.fn _ _,.ref=>Uc
 |.nilr _,.ref=>Uc
 |.dp _ _,.pt _=>Uc
 |.dp _ _,.lk _ _=>Uc
 |.ptr _ _,.pt _=>Uc
 |.ptr _ _,.lk _ _=>Uc
 |.nilr _,.pt _=>Uc
 |.nilr _,.lk _ _=>Uc
 |_,_=>Ud
def Zo.fits:Zo->Ty->Bool
 |.nil,.unit=>Uc
 |.cons v l,.prod a b=>v.fits a&&l.fits b
 |_,_=>Ud
end
def WG(w:World)(I J:Nat->Prop)(t:Ty)(xs:List (El t))(d:Value):Prop:=
 (xs=[]/\d=.slice Ub 0 0)\/∃b cap cells e c,d=.slice (Ua ⟨b,0,Ub⟩) xs.length cap/\J b/\w.heap[b]? =Ua (.cells cells e (0,0))/\xs.length<=cap/\cap*t.size<=cells.size/\Fa (Rd w I t) xs c/\c.flatten<+:cells.toList
def Hd(w:World)(I J:Nat->Prop)(lb:Ty)(xs:List (El (.pn lb)))(c:Value):Prop:=
 (xs=[]/\c=.slice Ub 0 0)\/∃b off cap cells e d,c=.slice (Ua ⟨b,off,Ub⟩) xs.length cap/\J b/\w.heap[b]? =Ua (.cells cells e (0,0))/\xs.length<=cap/\off+cap<=cells.size/\Fa (λx v=>Rd w I (.pn lb) x [v]) xs d/\d<+:cells.toList.drop off
def WS:Value->Option Nat
 |.slice (Ua a) _ _=>Ua a.block
 |_=>Ub
structure RF {κ:Type} (w:World) (I J:Nat->Prop) (t:Ty) (top:Option Nat) (row:κ->Value) (c:κ->List (El t)->Prop) (hole:Option κ):Prop where
 rd:∀k x,c k x->hole≠Ua k->WG w I J t x (row k)
 ds:∀k k' x x' b,c k x->c k' x' ->k≠k' ->hole≠Ua k->hole≠Ua k' ->WS (row k)=Ua b->WS (row k')≠Ua b
 tp:∀k x b,c k x->hole≠Ua k->WS (row k)=Ua b->top≠Ua b
def Ix(es:Array MapEntry)(clock:Nat):Prop:=clock=es.size/\∀(i:Nat) (e:MapEntry),es[i]? =Ua e->e.born=i
def Bn(es:Array MapEntry)(clock:Nat):Prop:=(∀x∈es.toList,x.born<clock)/\(es.toList.map (·.born)).Nodup
theorem Bn.empty(c:Nat):Bn #[] c:=⟨by simp,by simp⟩
theorem Bn.push{es:Array MapEntry}{clock:Nat}(h:Bn es clock){e:MapEntry}(j:e.born=clock):Bn (es.push e) (clock+1):=by
 refine⟨λx c=>?_,?_⟩
 ·rw[Vna]at c;rcases Vja.1 c with d|d
  ·exact Nat.lt_succ_of_lt (h.1 x d)
  grind
 ·rw[Vna,Vta];refine Voa.2 ⟨h.2,by simp,λa f b i=>?_⟩;simp at i;obtain⟨x,c,rfl⟩:=Vza.1 f;have:=h.1 x c;omega
theorem Bn.same{es b:Array MapEntry}{clock:Nat}(h:Bn es clock)(d:b.toList.map (·.born)=es.toList.map (·.born)):Bn b clock:=by
 refine⟨λx f=>?_,d▸h.2⟩;have:x.born∈es.toList.map (·.born):=by grind
 have ⟨y,e,c⟩:=Vza.1 this;rw[<-c];exact h.1 y e
def HR(es:Array MapEntry)(seen:Array Nat):List MapEntry:=es.toList.filter λe=> !seen.contains e.born
def RL(w:World)(I J:Nat->Prop)(t:Ty)(b:List Value)(xs:List (List (El t))):Prop:=
 b.length=xs.length/\RF w I J t Ub (λi:Nat=>b.getD i undef) (λi x=>xs[i]? =Ua x) Ub
def Xg(w:World)(I J:Nat->Prop)(t:Ty)(xs:List (List (El t)))(v:Value):Prop:=
 ∃c,RL w I J t c xs/\((xs=[]/\v=.slice Ub 0 0)\/∃b cap cs e,J b/\(∀i x,xs[i]? =Ua x->WS (c.getD i undef)≠Ua b)/\v=.slice (Ua ⟨b,0,Ub⟩) xs.length cap/\w.heap[b]? =Ua (.cells cs e (0,0))/\
  xs.length<=cap/\cap<=cs.size/\∀i,i<xs.length->cs[i]? =Ua (c.getD i undef))
def Kp{lb:Ty}(b:El lb->Nat)(y:El lb):El (.pn lb):=Ua (b y,y)
def JO{tn tq lt lb:Ty}(x:ZQ tn tq lt lb):List (El lb):=x.2.2.2.1.flatten++x.2.2.2.2.1++x.2.2.2.2.2
def X6{tn tq lt lb:Ty}(b:El lb->Nat)(x:ZQ tn tq lt lb):Prop:= ∀y∈JO x,∀c∈JO x,b y=b c->y=c
def Ru(w:World)(I J:Nat->Prop)(tn tq lt lb:Ty)(x:ZQ tn tq lt lb)(b:Nat):Prop:=
 J b/\∃(d:El lb->Nat) (h f c:Nat->Prop),X6 d x/\(∀k,h k->J k/\k≠b/\ ¬f k/\ ¬c k)/\(∀k,f k->J k/\k≠b/\ ¬c k)/\(∀k,c k->J k/\k≠b)/\
   ∃cells e i j c3 m n p,w.heap[b]? =Ua (.cells cells e (0,0))/\cells.toList=i++(j++(c3++[m,n,p]))/\Rd w I tn x.1 i/\Rd w I tq x.2.1 j/\Rd w I lt x.2.2.1 c3/\
    Xg w I h (.pn lb) (x.2.2.2.1.map λr=>r.map (Kp d)) m/\Hd w I f lb (x.2.2.2.2.1.map (Kp d)) n/\WG w I c (.pn lb) (x.2.2.2.2.2.map (Kp d)) p
def ORel(w:World)(g:Gh)(ow:Nat->Prop)(id:Nat):K5->Prop
 |.var t c=>g.ty id=t/\c.fits t=Uc/\∃b cs e,g.blk id=Ua b/\ow b/\w.heap[b]? =Ua (.cells cs e (0,0))/\cs.size=t.size/\CV w g c cs.toList
 |.vec t xs=>g.ty id=t/\((xs=[]/\g.blk id=Ub/\g.slv id=.slice Ub 0 0)\/
   ∃b cap cs e p,g.blk id=Ua b/\ow b/\g.slv id=.slice (Ua ⟨b,0,Ub⟩) xs.length cap/\w.heap[b]? =Ua (.cells cs e (0,0))/\xs.length<=cap/\cap*t.size<=cs.size/\
    Fa (Rd w g.I t) xs p/\p.flatten<+:cs.toList)
 |.map h q m=>∃b es clock,g.blk id=Ua b/\ow b/\w.heap[b]? =Ua (.map es clock)/\Bn es clock/\Fa (λkv e=>Ku w g (.d h kv.1) e.key/\Ku w g (.d q kv.2) e.val) m es.toList
 |.rows t xs ver f=>g.ty id=.sl t/\g.ver id=ver/\RF w g.I ow t (g.blk id) (λi:Nat=>g.row id (.int .i64) (i:Int)) (λi x=>xs[i]? =Ua x) f/\
   ((xs=[]/\g.blk id=Ub/\g.slv id=.slice Ub 0 0)\/
     ∃b cap cs e,g.blk id=Ua b/\ow b/\g.slv id=.slice (Ua ⟨b,0,Ub⟩) xs.length cap/\w.heap[b]? =Ua (.cells cs e (0,0))/\xs.length<=cap/\cap<=cs.size/\∀i:Nat,i<xs.length->cs[i]? =Ua (g.row id (.int .i64) (i:Int)))
 |.mrows h t m ver f=>g.ty id=.sl t/\g.ver id=ver/\RF w g.I ow t (g.blk id) (g.row id h) (λk x=>(k,x)∈m) f/\(m.map Vg).Nodup/\(∀k,k ∉ m.map Vg->g.row id h k=.slice Ub 0 0)/\
   ∃b es clock,g.blk id=Ua b/\ow b/\w.heap[b]? =Ua (.map es clock)/\Ix es clock/\Fa (λkv e=>Ku w g (.d h kv.1) e.key/\e.val=g.row id h kv.1) m es.toList
 |.rng h q rest cur=>∃b r es clock since seen,g.ty id=.ref/\g.blk id=Ua b/\ow b/\ow r/\w.heap[b]? =Ua (.mapIter (Ua r) since seen clock)/\w.heap[r]? =Ua (.map es clock)/\
   ((∀x∈es.toList,x.born<since)/\since<=clock/\(es.toList.map (·.born)).Nodup)/\Fa (λkv e=>Ku w g (.d h kv.1) e.key/\Ku w g (.d q kv.2) e.val) rest (HR es seen)/\
   ∀kv,cur=Ua kv->∃e∈es.toList,∃j:Array Nat,seen=j.push e.born/\Ku w g (.d h kv.1) e.key/\Ku w g (.d q kv.2) e.val
 |.dat t xs=>g.ty id=t/\Rd w g.I (.sl t) xs [g.slv id]
 |.vco n xs=>g.ty id=.pn n/\Hd w g.I ow n xs (g.slv id)
 |.fnd s u lt n x=>(g.ty id=Jk s u lt n\/g.ty id=Ye s u lt n)/\∃b,g.blk id=Ua b/\Ru w g.I ow s u lt n x b
structure Z1 where
 w0:World
 own0:Nat->Prop
 I0:Nat->Prop
 pl:Bool
abbrev AH:=Nat->Option K5
structure YF (w' w:World):Prop where
 out:w'.output=w.output
 drawn:w.drawn<=w'.drawn
theorem YF.rfl{w:World}:YF w w:=⟨_root_.rfl,Vm _⟩
structure YI (d:Bool) (w' w:World):Prop where
 out:w'.output=w.output
 drawn:d=Uc->w.drawn<=w'.drawn
theorem YI.rfl{d:Bool}{w:World}:YI d w w:=⟨_root_.rfl,by omega⟩
theorem YF.trans{d:Bool}{a b c:World}(h:YF a b)(k:YI d b c):YI d a c:=⟨h.out.trans k.out,λe=>Vaa (k.drawn e) h.drawn⟩
theorem YI.trans{d:Bool}{a b c:World}(h:YI d a b)(k:YI d b c):YI d a c:=⟨h.out.trans k.out,λe=>Vaa (k.drawn e) (h.drawn e)⟩
theorem YI.weak{d e:Bool}{a b:World}(h:YI d a b)(k:e=Uc->d=Uc):YI e a b:=⟨h.out,λx=>h.drawn (k x)⟩
structure RH (B:Z1) (H:AH) (w:World) (g:Gh) (ow:Nat->Nat->Prop):Prop where
 objs:∀id o,H id=Ua o->g.K id/\ORel w g (ow id) id o
 dist:∀id id' b,H id≠Ub->H id' ≠Ub->ow id b->ow id' b->id=id'
 sep:∀id b,H id≠Ub->ow id b->¬g.I b/\b<w.heap.size/\(B.own0 b\/B.w0.heap.size<=b)
 ilt:∀b,g.I b->b<w.heap.size
 inew:∀b,g.I b->B.I0 b\/B.own0 b\/B.w0.heap.size<=b
 os:w.os=B.w0.os
 tape:w.tape=B.w0.tape
 output:YI B.pl w B.w0
 size:B.w0.heap.size<=w.heap.size
 kept:∀b,b<B.w0.heap.size->¬B.own0 b->w.heap[b]? =B.w0.heap[b]?
structure JD (w w' :World):Prop where
 heap:w'.heap=w.heap
 os:w'.os=w.os
 tape:w'.tape=w.tape
 output:YF w' w
theorem JD.refl(w:World):JD w w:=⟨rfl,rfl,rfl,.rfl⟩
theorem JD.agree{w w' :World}(h:JD w w')(I:Nat->Prop):Kq I w w' :=λb _=>by rw[h.heap]
theorem WG.mono{w w' :World}{I i J j:Nat->Prop}{t:Ty}{xs:List (El t)}{d:Value}(z:Kq I w w')(s:∀b,I b->i b)(u:∀b,WS d=Ua b->J b->j b)(y:∀b,WS d=Ua b->J b->w'.heap[b]? =w.heap[b]?)(h:WG w I J t xs d):WG w' i j t xs d:=by
 rcases h with h|⟨b,cap,cells,e,f,rfl,k,m,n,p,q,r⟩
 ·exact .inl h
 ·exact .inr ⟨b,cap,cells,e,f,rfl,u b rfl k,(y b rfl k).trans m,n,p,q.mono λx c A=>Rd.mono z s t x c A,r⟩
theorem ZhF{w:World}{I:Nat->Prop}{lb:Ty}:∀{l:List (El (.pn lb))}{css:List (List Value)},Fa (Rd w I (.pn lb)) l css->∃b,css.flatten=b/\Fa (λx v=>Rd w I (.pn lb) x [v]) l b
 |[],[],_=>⟨[],rfl,trivial⟩
 |x::l,c::css,⟨d,e⟩=>by have ⟨b,f,h⟩:=ZhF e;have i:=Rd.length _ _ _ d;obtain⟨v,rfl⟩:=List.length_eq_one_iff.1 (i);exact⟨v::b,by simp [f],d,h⟩
theorem Hd.mono{w w' :World}{I d J f:Nat->Prop}{lb:Ty}{xs:List (El (.pn lb))}{c:Value}(y:Kq I w w')(q:∀b,I b->d b)(r:∀b,WS c=Ua b->J b->f b)(s:∀b,WS c=Ua b->J b->w'.heap[b]? =w.heap[b]?)(h:Hd w I J lb xs c):Hd w' d f lb xs c:=by
 rcases h with h|⟨b,off,cap,cells,e,u,rfl,i,j,k,m,n,p⟩
 ·exact .inl h
 ·exact .inr ⟨b,off,cap,cells,e,u,rfl,r b rfl i,(s b rfl i).trans j,k,m,n.mono λx v z=>Rd.mono y q (.pn lb) x [v] z,p⟩
theorem RF.mono{κ:Type}{w w' :World}{I d J e:Nat->Prop}{t:Ty}{top:Option Nat}{row:κ->Value}{c:κ->List (El t)->Prop}{hole:Option κ}(m:Kq I w w')(j:∀b,I b->d b)(n:∀b,J b->e b)(p:∀b,J b->w'.heap[b]? =w.heap[b]?)
 (h:RF w I J t top row c hole):RF w' d e t top row c hole:=
 ⟨λk x f i=>(h.rd k x f i).mono m j (by grind) (by grind),h.ds,h.tp⟩
theorem Xg.mono{w' w:World}{I c J d:Nat->Prop}{t:Ty}{xs:List (List (El t))}{v:Value}(m:Kq I w w')(f:∀b,I b->c b)(i:∀b,J b->d b)(j:∀b,J b->w'.heap[b]? =w.heap[b]?)(h:Xg w I J t xs v):Xg w' c d t xs v:=by have ⟨k,e,n⟩:=h;refine⟨k,⟨e.1,e.2.mono m f i j⟩,?_⟩;grind
theorem Ru.mono{w w' :World}{I y J z:Nat->Prop}{tn tq lt lb:Ty}{x:ZQ tn tq lt lb}{b:Nat}(f:Kq I w w')(d:∀b,I b->y b)(i:∀b,J b->z b)(j:∀b,J b->w'.heap[b]? =w.heap[b]?)(h:Ru w I J tn tq lt lb x b):Ru w' y z tn tq lt lb x b:=by
 have ⟨A,K,C,D,G,N,r,s,u,cells,e,L,M,c3,U,V,W,O,Q,R,S,m,n,p,q⟩:=h;exact⟨i _ A,K,C,D,G,N,λk c=>⟨i _ (r k c).1,(r k c).2⟩,λk c=>⟨i _ (s k c).1,(s k c).2⟩,λk c=>⟨i _ (u k c).1,(u k c).2⟩,cells,e,L,M,c3,U,V,W,(j _ A).trans O,Q,
  Rd.mono f d _ _ _ R,Rd.mono f d _ _ _ S,Rd.mono f d _ _ _ m,n.mono f d (λ_ h=>h) λk c=>j k (r k c).1,p.mono f d (λ_ _ h=>h) λk _ c=>j k (s k c).1,q.mono f d (λ_ _ h=>h) λk _ c=>j k (u k c).1⟩
theorem ORel.mono{w w' :World}{g L:Gh}{ow:Nat->Prop}{id:Nat}{o:K5}(j:Kq g.I w w')(d:g.Le L)(f:g.K id)(s:L.ver id=g.ver id)(G:∀b,ow b->w'.heap[b]? =w.heap[b]?)(h:ORel w g ow id o):ORel w' L ow id o:=by
 cases o with
 |var t c=>
  have ⟨n,Y,b,cs,e,i,p,k,q,y⟩:=h
  exact⟨(d.ty _ f).trans n,Y,b,cs,e,(d.blk _ f).trans i,p,by grind,q,y.mono j d⟩
 |vec t xs=>
  have ⟨n,h⟩:=h;refine⟨(d.ty _ f).trans n,?_⟩;rcases h with ⟨i,k,q⟩|⟨b,cap,cs,e,J,i,p,k,q,y,C,z,D⟩
  ·exact .inl ⟨i,(d.blk _ f).trans k,(d.slv _ f).trans q⟩
  ·exact .inr ⟨b,cap,cs,e,J,(d.blk _ f).trans i,p,(d.slv _ f).trans k,by grind,y,C,z.mono λx c r=>Rd.mono j d.I t x c r,D⟩
 |map W vt m=>
  obtain⟨b,es,clock,i,p,k,S,q⟩:=h
  exact⟨b,es,clock,(d.blk _ f).trans i,p,by grind,S,q.mono λx e r=>⟨r.1.mono j d,r.2.mono j d⟩⟩
 |rows t xs ver A=>
  have ⟨n,i,k,h⟩:=h;refine⟨(d.ty _ f).trans n,s.trans i,?_,?_⟩
  ·rw[d.row _ f s,d.blk _ f];exact k.mono j d.I (by simp) G
  ·rw[d.row _ f s,d.blk _ f,d.slv _ f]
   grind
 |mrows W t m ver A=>
  obtain⟨n,i,k,q,y,b,es,clock,C,z,D,U,Q⟩:=h;refine⟨(d.ty _ f).trans n,s.trans i,?_,q,?_,b,es,clock,(d.blk _ f).trans C,z,by grind,U,?_⟩
  ·rw[d.row _ f s,d.blk _ f];exact k.mono j d.I (by simp) G
  ·rw[d.row _ f s];omega
  ·rw[d.row _ f s];exact Q.mono λx e r=>⟨r.1.mono j d,r.2⟩
 |rng W vt rest cur=>
  have ⟨b,mb,es,clock,since,seen,n,i,k,q,y,C,z,D,Q⟩:=h;refine⟨b,mb,es,clock,since,seen,(d.ty _ f).trans n,(d.blk _ f).trans i,k,q,by grind,by grind,z,D.mono λx e r=>⟨r.1.mono j d,r.2.mono j d⟩,λkv V=>?_⟩;obtain⟨e,X,u,M,N,O⟩:=Q kv V
  exact⟨e,X,u,M,N.mono j d,O.mono j d⟩
 |dat t xs=>
  exact⟨(d.ty _ f).trans h.1,by rw[d.slv _ f];exact Rd.mono j d.I _ _ _ h.2⟩
 |vco Z xs=>
  exact⟨(d.ty _ f).trans h.1,by rw[d.slv _ f];exact h.2.mono j d.I (λ_ _ h=>h) λb _ R=>G b R⟩
 |fnd tn tq lt Z x=>
  have ⟨n,b,i,k⟩:=h;exact⟨n.imp (d.ty _ f).trans (d.ty _ f).trans,b,(d.blk _ f).trans i,k.mono j d.I (λ_ h=>h) G⟩
theorem RH.same{B:Z1}{H:AH}{w w' :World}{g:Gh}{ow:Nat->Nat->Prop}(h:RH B H w g ow)(c:JD w w'):RH B H w' g ow where
 objs:=λid o f=>⟨(h.objs id o f).1,(h.objs id o f).2.mono (c.agree _) (.refl g) (h.objs id o f).1 rfl λb _=>by rw[c.heap]⟩
 dist:=h.dist
 sep:=λid b d e=>by rw[c.heap];exact h.sep id b d e
 ilt:=λb i=>by rw[c.heap];exact h.ilt b i
 inew:=h.inew
 os:=c.os.trans h.os
 tape:=c.tape.trans h.tape
 output:=c.output.trans h.output
 size:=by rw[c.heap];exact h.size
 kept:=λb d e=>by rw[c.heap];exact h.kept b d e
def Z0(H:AH)(id:Nat)(o:Option K5):AH:=λk=>bif Vd k id then o else H k
theorem XL{H:AH}{id:Nat}{o:Option K5}:Z0 H id o id=o:=by simp [Z0]
theorem Ky{H:AH}{id k:Nat}{o:Option K5}(h:k≠id):Z0 H id o k=H k:=by
 have:Vd k id=false:=by
  cases b:Vd k id
  all_goals simp_all
 simp [Z0,this]
theorem YB{H:AH}{id k:Nat}(h:Z0 H id Ub k≠Ub):k≠id/\H k≠none:=by
 by_cases b:k=id
 ·subst b;exact absurd XL h
 ·exact⟨b,by rwa [Ky b]at h⟩
theorem RH.drop{B:Z1}{H:AH}{w:World}{g:Gh}{ow:Nat->Nat->Prop}(h:RH B H w g ow)(id:Nat):RH B (Z0 H id Ub) w g ow where
 objs:=λk o d=>by have:=(YB (H:=H) (id:=id) (k:=k) (by grind)).1;rw[Ky this]at d;exact h.objs k o d
 dist:=λk f b c e=>h.dist k f b (YB c).2 (YB e).2
 sep:=λk b c=>h.sep k b (YB c).2
 ilt:=h.ilt
 inew:=h.inew
 os:=h.os
 tape:=h.tape
 output:=h.output
 size:=h.size
 kept:=h.kept
def Gh.add(g:Gh)(id:Nat)(t:Ty)(b:Option Nat)(v:Value)(r:(c:Ty)->El c->Value:=λ_ _=>.slice Ub 0 0):Gh where
 I:=g.I
 K:=λk=>k=id\/g.K k
 ty:=λk=>if k=id then t else g.ty k
 blk:=λk=>if k=id then b else g.blk k
 slv:=λk=>if k=id then v else g.slv k
 ver:=λk=>if k=id then 0 else g.ver k
 row:=λk=>if k=id then r else g.row k
theorem Gh.le_add{g:Gh}{id:Nat}(h:¬g.K id)(t:Ty)(b:Option Nat)(v:Value)(r:(d:Ty)->El d->Value:=λ_ _=>.slice Ub 0 0):g.Le (g.add id t b v r) where
 I:=λ_ h=>h
 K:=λ_ h=>.inr h
 ty:=λk c=>Zg (by grind)
 blk:=λk c=>Zg (by grind)
 slv:=λk c=>Zg (by grind)
 ver:=λk c=>Nat.le_of_eq (Zg (by grind)).symm
 row:=λk c _=>Zg (by grind)
def Xk(ow:Nat->Nat->Prop)(id:Nat)(J:Nat->Prop):Nat->Nat->Prop:=λk b=>if k=id then J b else ow k b
theorem J4{ow:Nat->Nat->Prop}{id:Nat}{J:Nat->Prop}:Xk ow id J id=J:=by funext b;simp [Xk]
theorem Jd{ow:Nat->Nat->Prop}{id k:Nat}{J:Nat->Prop}(h:k≠id):Xk ow id J k=ow k:=by funext b;simp [Xk,h]
theorem RH.add{B:Z1}{H:AH}{w w' :World}{g:Gh}{ow:Nat->Nat->Prop}(h:RH B H w g ow){id:Nat}(G:¬g.K id){t:Ty}{b:Option Nat}{v:Value}{r:(N:Ty)->El N->Value}{o:K5}{J:Nat->Prop}
 (e:∀k,k<w.heap.size->w'.heap[k]? =w.heap[k]?) (M:w.heap.size<=w'.heap.size) (C:w'.os=w.os) (s:w'.tape=w.tape) (u:YF w' w)
 (A:∀k,J k->¬g.I k/\k<w'.heap.size/\(B.own0 k\/B.w0.heap.size<=k)/\∀x,H x≠Ub->¬ow x k)
 (L:ORel w' (g.add id t b v r) J id o):RH B (Z0 H id (Ua o)) w' (g.add id t b v r) (Xk ow id J) where
 objs:=λk O m=>by
  by_cases c:k=id
  ·subst c;rw[XL]at m;cases m;rw[J4];exact⟨.inl rfl,L⟩
  ·rw[Ky c]at m;obtain⟨j,f⟩:=h.objs k O m;rw[Jd c];refine⟨.inr j,f.mono (λb A=>e b (h.ilt b A)) (Gh.le_add G t b v r) j (Zg c) λi n=>e i ?_⟩;exact(h.sep k i (by grind) n).2.1
 dist:=λk D i j f y z=>by
  by_cases c:k=id<;>by_cases d:D=id
  ·omega
  ·subst c;rw[Ky d]at f;rw[J4]at y;rw[Jd d]at z;grind
  ·subst d;rw[Ky c]at j;rw[J4]at z;rw[Jd c]at y;grind
  ·rw[Ky c]at j;rw[Ky d]at f;rw[Jd c]at y;rw[Jd d]at z;exact h.dist k D i j f y z
 sep:=λk i j f=>by
  by_cases c:k=id
  ·subst c;rw[J4]at f;obtain⟨p,q,r,_⟩:=A _ f;exact⟨p,q,r⟩
  ·rw[Ky c]at j;rw[Jd c]at f;obtain⟨p,q,r⟩:=h.sep k i j f;exact⟨p,by omega,r⟩
 ilt:=λi n=>by have:=h.ilt i n;omega
 inew:=h.inew
 os:=C.trans h.os
 tape:=s.trans h.tape
 output:=u.trans h.output
 size:=by have:=h.size;omega
 kept:=λi j f=>(e i (by have:=h.size;omega)).trans (h.kept i j f)
theorem RH.write{B:Z1}{H:AH}{w w' :World}{g:Gh}{ow:Nat->Nat->Prop}(h:RH B H w g ow){id b:Nat}{z:K5}(s:H id≠Ub)(A:ow id b)
 (d:∀k,k≠b->w'.heap[k]? =w.heap[k]?) (q:w'.heap.size=w.heap.size) (y:w'.os=w.os) (r:w'.tape=w.tape) (u:YF w' w)
 (K:ORel w' g (ow id) id z):RH B (Z0 H id (Ua z)) w' g ow:=by
 have D:=h.sep id b s A;have c:∀k,Z0 H id (Ua z) k≠Ub->H k≠none:=by
  intro k C;by_cases e:k=id
  ·grind
  ·rwa [Ky e]at C
 have x:Kq g.I w w' :=λk C=>by grind
 exact {
  objs:=λk o i=>by
   by_cases p:k=id
   ·subst p;rw[XL]at i;cases i
    cases J:H k with
    |none=>grind
    |some o=>exact⟨(h.objs k o J).1,K⟩
   ·rw[Ky p]at i;have ⟨j,m⟩:=h.objs k o i;refine⟨j,m.mono x (.refl g) j rfl λf n=>d f λe=>p ?_⟩;exact h.dist k id b (by grind) s (e▸n) A
  dist:=λk G f j m=>h.dist k G f (c k j) (c G m)
  sep:=λk f j m=>by rw[q];exact h.sep k f (c k j) m
  ilt:=λf n=>by rw[q];exact h.ilt f n
  inew:=h.inew
  os:=y.trans h.os
  tape:=r.trans h.tape
  output:=u.trans h.output
  size:=by rw[q];exact h.size
  kept:=λf j m=>by rw[d f (by grind)];exact h.kept f j m}
theorem RH.putDat{B:Z1}{H:AH}{w:World}{g:Gh}{ow:Nat->Nat->Prop}(h:RH B H w g ow){id:Nat}{t:Ty}{xs:List (El t)}(p:g.K id)(r:g.ty id=t)(q:Rd w g.I (.sl t) xs [g.slv id]):
 RH B (Z0 H id (Ua (.dat t xs))) w g (Xk ow id λ_=>False) where
 objs:=λk o i=>by
  by_cases c:k=id
  ·subst c;rw[XL]at i;cases i;exact⟨p,r,q⟩
  ·rw[Ky c]at i;rw[Jd c];exact h.objs k o i
 dist:=λk n b f e j m=>by
  by_cases c:k=id
  ·subst c;rw[J4]at j;grind
  ·by_cases d:n=id
   ·subst d;rw[J4]at m;grind
   ·rw[Ky c]at f;rw[Ky d]at e;rw[Jd c]at j;rw[Jd d]at m;exact h.dist k n b f e j m
 sep:=λk b f e=>by
  by_cases c:k=id
  ·subst c;rw[J4]at e;grind
  ·rw[Ky c]at f;rw[Jd c]at e;exact h.sep k b f e
 ilt:=h.ilt
 inew:=h.inew
 os:=h.os
 tape:=h.tape
 output:=h.output
 size:=h.size
 kept:=h.kept
def Gh.grow(g:Gh)(J:Nat->Prop):Gh:={g with I:=λb=>g.I b\/J b}
theorem Gh.le_grow(g:Gh)(J:Nat->Prop):g.Le (g.grow J):=⟨λ_ h=>.inl h,λ_ h=>h,λ_ _=>rfl,λ_ _=>rfl,λ_ _=>rfl,λ_ _=>Vm _,λ_ _ _=>rfl⟩
theorem RH.grow{B:Z1}{H:AH}{w:World}{g:Gh}{ow:Nat->Nat->Prop}(h:RH B H w g ow){J:Nat->Prop}(j:∀b,J b->b<w.heap.size/\(B.I0 b\/B.own0 b\/B.w0.heap.size<=b)/\∀id,H id≠Ub->¬ow id b):RH B H w (g.grow J) ow where
 objs:=λid o e=>⟨(h.objs id o e).1,(h.objs id o e).2.mono (λ_ _=>rfl) (g.le_grow J) (h.objs id o e).1 rfl (by simp)⟩
 dist:=h.dist
 sep:=λid b f i=>⟨λd=>by
  rcases d with d|d
  ·exact(h.sep id b f i).1 d
  grind,(h.sep id b f i).2⟩
 ilt:=λb c=>by
  rcases c with c|c
  ·exact h.ilt b c
  grind
 inew:=λb c=>by
  rcases c with c|c
  ·exact h.inew b c
  grind
 os:=h.os
 tape:=h.tape
 output:=h.output
 size:=h.size
 kept:=h.kept
theorem ZoM{w:World}{g:Gh}{ow:Nat->Prop}{id:Nat}{t:Ty}{xs:List (El t)}(h:ORel w g ow id (.vec t xs)){I:Nat->Prop}(q:∀b,g.I b->I b)(s:∀b,ow b->I b):
 Rd w I (.sl t) xs [g.slv id]:=by
 have ⟨C,A⟩:=h;rcases A with ⟨rfl,u,i⟩|⟨b,cap,cs,e,d,u,f,i,y,m,G,n,p⟩
 ·rw[i];exact⟨Ub,0,[],rfl,trivial,by simp,Vm _⟩
 ·rw[i];refine⟨Ua ⟨b,0,Ub⟩,cap,d,rfl,n.mono λx c D=>Rd.mono (λ_ _=>rfl) q t x c D,λ_=>⟨b,0,rfl,s b f,?_⟩,m⟩;intro j J;have ⟨r,K⟩:=p;have k:d.flatten.length<=cs.toList.length:=by grind
  simp [Vw,y,if_false];have z:j<cs.size:=by grind
  congr 1;have:cs.toList[j]'(by omega)=d.flatten[j]:=by grind
  grind
theorem WG.data{w:World}{I J K:Nat->Prop}{t:Ty}{xs:List (El t)}{i:Value}(h:WG w I J t xs i)(q:∀b,I b->K b)(s:∀b,J b->K b):Rd w K (.sl t) xs [i]:=by
 rcases h with ⟨rfl,rfl⟩|⟨b,cap,cs,e,d,rfl,f,u,m,A,n,p⟩
 ·exact⟨Ub,0,[],rfl,trivial,by simp,Vm _⟩
 ·refine⟨Ua ⟨b,0,Ub⟩,cap,d,rfl,n.mono λx c z=>Rd.mono (λ_ _=>rfl) q t x c z,λ_=>⟨b,0,rfl,s b f,?_⟩,m⟩;intro j C;have ⟨r,D⟩:=p;have k:d.flatten.length<=cs.toList.length:=by grind
  simp [Vw,u,if_false];have y:j<cs.size:=by grind
  congr 1;have:cs.toList[j]'(by omega)=d.flatten[j]:=by grind
  grind
theorem ZnR{w:World}{g:Gh}{ow:Nat->Prop}{id:Nat}{t:Ty}{xs:List (List (El t))}{v:Nat}(h:ORel w g ow id (.rows t xs v Ub)){I:Nat->Prop}(q:∀b,g.I b->I b)(k:∀b,ow b->I b):
 Rd w I (.sl (.sl t)) xs [g.slv id]:=by
 have ⟨_,_,d,z⟩:=h;rcases z with ⟨rfl,r,f⟩|⟨b,cap,cs,e,r,c,f,s,p,C,D⟩
 ·rw[f];exact⟨Ub,0,[],rfl,trivial,by simp,Vm _⟩
 ·rw[f];refine⟨Ua ⟨b,0,Ub⟩,cap,(Vt xs.length).map λi:Nat=>[g.row id (.int .i64) (i:Int)],rfl,?_,λ_=>⟨b,0,rfl,k b c,?_⟩,p⟩
  ·have key:∀(n:Nat) (l:List (List (El t))),(∀i x,l[i]? =Ua x->Rd w I (.sl t) x [g.row id (.int .i64) ((n+i:Nat):Int)])->Fa (Rd w I (.sl t)) l ((List.range' n l.length).map λi:Nat=>[g.row id (.int .i64) (i:Int)]):=by
    intro n l
    induction l generalizing n with
    |nil=>intro _;trivial
    |cons x l m=>
     intro h;refine⟨by simpa using h 0 x rfl,?_⟩;have:=m (n+1) λi y J=>by have:=h (i+1) y (by grind);grind
     omega
   have:=key 0 xs λi x A=>by rw[Nat.zero_add];exact(d.rd i x A (by simp)).data q k
   simpa [List.range_eq_range'] using this
  ·intro j G;have u:((Vt xs.length).map λi:Nat=>[g.row id (.int .i64) (i:Int)]).flatten=(Vt xs.length).map λi:Nat=>g.row id (.int .i64) (i:Int):=by
    generalize xs.length=n
    induction n with
    |zero=>rfl
    |succ n m=>rw[List.range_succ];grind
   simp [Vw,s,if_false];grind
end Tr
end
section
namespace Tr
open Go
inductive Zy (α:Type):Type 1 where
 |ret (a:α)
 |fail
 |getH (id:Nat) (k:Option K5->Zy α)
 |opt {β:Type} (o:Option β) (k:β->Zy α)
 |bool (b:Bool) (k:Bool->Zy α)
def Zy.bind{α β:Type}:Zy α->(α->Zy β)->Zy β
 |.ret a,f=>f a
 |.fail,_=>.fail
 |.getH id k,f=>.getH id λo=>(k o).bind f
 |.opt o k,f=>.opt o λb=>(k b).bind f
 |.bool b k,f=>.bool b λc=>(k c).bind f
def Zy.runK{α ρ:Type}(H:AH):Zy α->List Nat->(α->List Nat->Option ρ)->Option ρ
 |.ret a,l,k=>k a l
 |.fail,_,_=>Ub
 |.getH id f,l,k=>(f (H id)).runK H (id::l) k
 |.opt o f,l,k=>o.bind λb=>(f b).runK H l k
 |.bool b f,l,k=>bif b then(f Uc).runK H l k else(f Ud).runK H l k
def Zy.run{α:Type}(H:AH):Zy α->List Nat->Option (α×List Nat)
 |.ret a,l=>Ua (a,l)
 |.fail,_=>Ub
 |.getH id f,l=>(f (H id)).run H (id::l)
 |.opt o f,l=>o.bind λb=>(f b).run H l
 |.bool b f,l=>(f b).run H l
theorem Zy.runK_eq{α ρ:Type}(H:AH)(k:α->List Nat->Option ρ)(a:Zy α)(l:List Nat):a.runK H l k=(a.run H l).bind λr=>k r.1 r.2:=by
 induction a generalizing l with
 |ret a=>rfl
 |fail=>rfl
 |getH id f c=>exact c _ _
 |opt o f c=>
  cases o with
  |none=>rfl
  |some b=>exact c _ _
 |bool b f c=>cases b<;>exact c _ _
theorem Zy.run_bind{α β:Type}(H:AH)(f:α->Zy β)(a:Zy α)(l:List Nat):(a.bind f).run H l=(a.run H l).bind λr=>(f r.1).run H r.2:=by
 induction a generalizing l with
 |ret a=>rfl
 |fail=>rfl
 |getH id k c=>exact c _ _
 |opt o k c=>
  cases o with
  |none=>rfl
  |some b=>exact c _ _
 |bool b k c=>exact c _ _
theorem Zy.run_local{α:Type}{H H' :AH}(a:Zy α)(l:List Nat)(r:α)(l' :List Nat)(h:a.run H l=Ua (r,l')):
 ∃m,l' =m++l/\((∀id∈m,H' id=H id)->a.run H' l=Ua (r,l')):=by
 induction a generalizing l with
 |ret a=>
  simp only[Zy.run,ZL,Vb]at h
  exact⟨[],by simp [h.2],λ_=>by simp [Zy.run,h.1,h.2]⟩
 |fail=>simp [Zy.run]at h
 |getH id k c=>
  simp only[Zy.run]at h;obtain⟨m,e,f⟩:=c _ _ h;refine⟨m++[id],by simp [e],λd=>?_⟩;simp only[Zy.run];rw[d id (by simp)]
  exact f λi j=>d i (by simp [j])
 |opt o k c=>
  cases o with
  |none=>simp [Zy.run]at h
  |some b=>
   simp only[Zy.run,Za]at h⊢
   exact c _ _ h
 |bool b k c=>
  simp only[Zy.run]at h⊢;exact c _ _ h
def Kz(t b:Ty)(x:El t):Option (El b):=if h:t=b then Ua (h▸x) else Ub
def Zv(i:Int)(n:Nat):Option Nat:=if 0<=i/\i<n then Ua i.toNat else Ub
def idx{α:Type}(xs:List α)(i:Int):Option α:=if 0<=i then xs[i.toNat]? else Ub
def ZD(b:Bool):Option Unit:=bif b then Ua () else Ub
abbrev DV:=(t:Ty)×El t
def GY:(t:Ty)->El t->List Nat->Zy DV
 |t,x,[]=>.ret ⟨t,x⟩
 |.prod a b,x,i::p=>match i with
  |0=>GY a x.1 p
  |n+1=>GY b x.2 (n::p)
 |.arr _ t,x,i::p=>.opt x[i]? λy=>GY t y p
 |_,_,_::_=>.fail
def Xr:(t:Ty)->El t->List Nat->DV->Zy (El t)
 |t,_,[],y=>.opt (Kz y.1 t y.2) .ret
 |.prod a b,x,i::p,y=>match i with
  |0=>(Xr a x.1 p y).bind λz=>.ret (z,x.2)
  |n+1=>(Xr b x.2 (n::p) y).bind λz=>.ret (x.1,z)
 |.arr _ t,x,i::p,y=>.opt x[i]? λe=>(Xr t e p y).bind λz=>.ret (x.set i z)
 |_,_,_::_,_=>.fail
def Hl:(t:Ty)->El t->Zo
 |.prod a b,x=>.cons (.d a x.1) (Hl b x.2)
 |_,_=>.nil
mutual
def GX:AV->List Nat->Zy AV
 |v,[]=>.ret v
 |.d t x,p=>(GY t x p).bind λy=>.ret (.d y.1 y.2)
 |.agg l,n::p=>Ze4 l n p
 |_,_::_=>.fail
def Ze4:Zo->Nat->List Nat->Zy AV
 |.cons v _,0,p=>GX v p
 |.cons _ l,n+1,p=>Ze4 l n p
 |.nil,_,_=>.fail
end
def AV.dv? :AV->Option DV
 |.d t x=>Ua ⟨t,x⟩
 |_=>Ub
def Hw:Ty->Zo->Nat->List Nat->AV->Zy Zo
 |.prod a _,.cons u l,0,p,v=>(match p,u with
  |[],_=>bif v.fits a then .ret (.cons v l) else .fail
  |p,.d t x=>(match v with
   |.d c y=>(Xr t x p ⟨c,y⟩).bind λz=>.ret (.cons (.d t z) l)
   |_=>.fail)
  |_,_=>.fail)
 |.prod _ b,.cons u l,n+1,p,v=>(Hw b l n p v).bind λm=>.ret (.cons u m)
 |_,_,_,_,_=>.fail
def Rm(t:Ty)(c:AV)(p:List Nat)(v:AV):Zy AV:=
 match p with
 |[]=>bif v.fits t then .ret v else .fail
 |n::q=>match c with
  |.agg l=>(Hw t l n q v).bind λm=>.ret (.agg m)
  |.d b x=>(match v with
   |.d e y=>(Xr b x (n::q) ⟨e,y⟩).bind λz=>.ret (.d b z)
   |v=>bif (Hl b x).fits t then(Hw t (Hl b x) n q v).bind λl=>.ret (.agg l) else .fail)
  |_=>.fail
end Tr
end
section
namespace Tr
open Go
noncomputable section
def Ty.dep:Ty->Nat
 |.prod a b=>max (a.dep+1) b.dep
 |.arr _ t=>t.dep+1
 |.sl t=>t.dep+1
 |_=>1
def eqEl:(t:Ty)->El t->El t->Option Bool
 |.int _,x,y=>Ua (Ue (x=y))
 |.bool,x,y=>Ua (x==y)
 |.str,x,y=>Ua (Ue (x=y))
 |.unit,_,_=>Ua Uc
 |.prod a .unit,x,y=>eqEl a x.1 y.1
 |.prod a b,x,y=>(eqEl a x.1 y.1).bind λp=>(eqEl b x.2 y.2).bind λq=>Ua (p&&q)
 |.arr _ t,x,y=>(eqs (eqEl t) x y)
 |_,_,_=>Ub
where eqs {α:Type} (f:α->α->Option Bool):List α->List α->Option Bool
 |[],[]=>Ua Uc
 |a::l,b::m=>(f a b).bind λp=>(eqs f l m).bind λq=>Ua (p&&q)
 |_,_=>Ub
def ZW{α β:Type}(eq:α->α->Bool)(k:α):List (α×β)->Option β
 |[]=>Ub
 |e::l=>bif eq k e.1 then Ua e.2 else ZW eq k l
def Kv{α β:Type}(eq:α->α->Bool)(k:α)(v:β):List (α×β)->List (α×β)
 |[]=>[(k,v)]
 |e::l=>bif eq k e.1 then(k,v)::l else e::Kv eq k v l
def Zr(t:Ty)(x y:El t):Bool:=(eqEl t x y).getD Ud
def Ty.key:Ty->Bool
 |.int _=>Uc
 |.bool=>Uc
 |.str=>Uc
 |.unit=>Uc
 |.prod a b=>a.key&&b.key
 |.arr _ t=>t.key
 |_=>Ud
def Ty.keyOk(t:Ty):Bool:=t.key&&Vda t.dep 100
mutual
inductive Pat where
 |pd (t:Ty)
 |own (t:Ty) (keep:Bool)
 |var (t:Ty) (p:Pat)
 |ro (t:Ty)
 |map (b c:Ty)
 |rows (t:Ty) (keep:Bool)
 |mrows (b t:Ty)
 |it (b c:Ty)
 |fnd (tn tq lt lb:Ty)
 |owo (lb:Ty)
 |agg (l:Pats)
 |fn (f:FuncId) (l:Pats)
 |nilr
 |nils
 |any
inductive Pats where
 |nil
 |cons (p:Pat) (l:Pats)
end
mutual
@[reducible] def K6:Pat->Type
  |.pd t=>El t
  |.own t _=>List (El t)
  |.var _ p=>K6 p
  |.ro t=>El t
  |.map b c=>List (El b×El c)
  |.rows t _=>List (List (El t))
  |.mrows b t=>List (El b×List (El t))
  |.it b c=>List (El b×El c)
  |.fnd tn tq lt lb=>ZQ tn tq lt lb
  |.owo lb=>List (El (.pn lb))
  |.agg l=>Kw l
  |.fn _ l=>Kw l
  |.nilr=>Unit
  |.nils=>Unit
  |.any=>Unit
@[reducible] def Kw:Pats->Type
  |.nil=>Unit
  |.cons p l=>K6 p×Kw l
end
mutual
@[reducible] def Gi:Pat->Type
  |.own t true=>List (El t)
  |.var _ p=>K6 p
  |.map b c=>List (El b×El c)
  |.rows t true=>List (List (El t))
  |.mrows b t=>List (El b×List (El t))
  |.fnd tn tq lt lb=>ZQ tn tq lt lb
  |.agg l=>Wi l
  |.fn _ l=>Wi l
  |_=>Unit
@[reducible] def Wi:Pats->Type
  |.nil=>Unit
  |.cons p l=>Gi p×Wi l
end
def Yo(id ver:Nat)(c:Ty)(k:El c):Zy ((t:Ty)×List (El t)):=
 .getH id fun
  |some (.rows t xs v Ub)=>bif Vd v ver then .opt (Kz c (.int .i64) k) λi=>.opt (idx xs i) λx=>.ret ⟨t,x⟩ else .fail
  |some (.mrows b t m v Ub)=>bif Vd v ver&&b.keyOk then .opt (Kz c b k) λd=>.ret ⟨t,(ZW (Zr b) d m).getD []⟩ else .fail
  |_=>.fail
abbrev ZaP(a b:Ty):Ty:=.prod a (.prod (.lk a b) b)
mutual
def Kk:(t:Ty)->AV->Zy (El t×List Nat)
 |t,.d c x=>.opt (Kz c t x) λy=>.ret (y,[])
 |.sl _,.nils=>.ret ([],[])
 |.sl t,.vw id=>.getH id fun
  |some (.vec c xs)=>.opt (Kz (.sl c) (.sl t) xs) λy=>.ret (y,[id])
  |some (.rows c xs _ Ub)=>.opt (Kz (.sl (.sl c)) (.sl t) xs) λy=>.ret (y,[id])
  |some (.dat c xs)=>.opt (Kz (.sl c) (.sl t) xs) λy=>.ret (y,[])
  |_=>.fail
 |.sl t,.nw id ver e k=>(Yo id ver e k).bind λr=>.opt (Kz (.sl r.1) (.sl t) r.2) λy=>.ret (y,[id])
 |.sl t,.vs id f n=>.getH id fun
  |some (.vec c xs)=>.opt (Kz (.sl c) (.sl t) xs) λy=>.ret ((y.drop f).take n,[id])
  |_=>.fail
 |t,.agg l=>Yb t l
 |.pt _,.nilr p=>bif p then .ret (Ub,[]) else .fail
 |.pt t,.ptr id p=>bif p.isEmpty then .getH id fun
  |some (.var _ (.d c x))=>.opt (Kz c t x) λy=>.ret (Ua y,[id])
  |_=>.fail else .fail
 |.lk _ _,.nilr p=>bif p then .ret ([],[]) else .fail
 |.lk a b,.dp c x=>.opt (Kz c (ZaP a b) x) λy=>.ret ((y.1,y.2.2)::y.2.1,[])
 |.lk a b,.ptr id p=>bif p.isEmpty then .getH id fun
  |some (.var _ (.d c x))=>.opt (Kz c (ZaP a b) x) λy=>.ret ((y.1,y.2.2)::y.2.1,[id])
  |_=>.fail else .fail
 |.pn _,.nilr p=>bif p then .ret (Ub,[]) else .fail
 |_,_=>.fail
def Yb:(t:Ty)->Zo->Zy (El t×List Nat)
 |.unit,.nil=>.ret ((),[])
 |.prod a b,.cons v l=>(Kk a v).bind λx=>(Yb b l).bind λy=>.ret ((x.1,y.1),x.2++y.2)
 |_,_=>.fail
end
def Zel(l:List Int):List UInt8:=l.map λn=>UInt8.ofNat n.toNat
def D3(t:Ty)(x:AV):Zy (List (El t)×List Nat):=
 match x with
 |.vw id=>.getH id fun
  |some (.rows _ _ _ _)=>.fail
  |_=>Kk (.sl t) (.vw id)
 |x=>Kk (.sl t) x
def JS(t:Ty)(v:AV):Zy (List (El t)×List Nat):=
 match v with
 |.vw id=>.getH id fun
  |some (.vec b xs)=>.opt (Kz (.sl b) (.sl t) xs) λy=>.ret (y,[id])
  |_=>.fail
 |.vs id 0 n=>.getH id fun
  |some (.vec b xs)=>.opt (Kz (.sl b) (.sl t) xs) λy=>.ret (y.take n,[id])
  |_=>.fail
 |.nils=>.ret ([],[])
 |_=>.fail
def Rh(lb:Ty)(v:AV):Zy (List (El (.pn lb))×List Nat):=
 match v with
 |.vw id=>.getH id fun
  |some (.vec c xs)=>.opt (Kz (.sl c) (.sl (.pn lb)) xs) λy=>.ret (y,[id])
  |some (.vco b xs)=>.opt (Kz (.sl (.pn b)) (.sl (.pn lb)) xs) λy=>.ret (y,[id])
  |_=>.fail
 |.nils=>.ret ([],[])
 |_=>.fail
def Yz(t:Ty)(v:AV):Zy (List (List (El t))×List Nat):=
 match v with
 |.vw id=>.getH id fun
  |some (.rows b xs _ Ub)=>.opt (Kz (.sl (.sl b)) (.sl (.sl t)) xs) λy=>.ret (y,[id])
  |_=>.fail
 |.nils=>.ret ([],[])
 |_=>.fail
def Zlu(tn tq lt lb:Ty):Ty:=.prod tn (.prod tq (.prod lt (.prod (.sl (.sl lb)) (.prod (.sl lb) (.sl lb)))))
@[reducible] def ZdU (tn tq lt lb:Ty):Type:=El tn×El tq×El lt×List (List (El (.pn lb)))×List (El (.pn lb))×List (El (.pn lb))
def WH{tn tq lt lb:Ty}(b:El lb->Nat)(x:ZQ tn tq lt lb):ZdU tn tq lt lb:=(x.1,x.2.1,x.2.2.1,x.2.2.2.1.map (λr=>r.map (Kp b)),x.2.2.2.2.1.map (Kp b),x.2.2.2.2.2.map (Kp b))
open Classical in
noncomputable def untag{tn tq lt lb:Ty}(y:ZdU tn tq lt lb):Option (ZQ tn tq lt lb):=if h:∃(x:ZQ tn tq lt lb) (ad:El lb->Nat),X6 ad x/\y=WH ad x then Ua (Classical.choose h) else Ub
theorem Zw7{tn tq lt lb:Ty}{y:ZdU tn tq lt lb}{x:ZQ tn tq lt lb}(h:untag y=Ua x):∃b:El lb->Nat,X6 b x/\y=WH b x:=by
 unfold untag at h;split at h
 ·rename_i c;have:=Classical.choose_spec c;rw[KO h]at this;exact this
 ·cases h
theorem Zi8{lb:Ty}{d c:El lb->Nat}{l l' :List (El lb)}(h:l.map (Kp d)=l'.map (Kp c)):l=l' :=by
 have:(l.map (Kp d)).map (λz:El (.pn lb)=>(z:Option (Nat×El lb)).map Vua)=(l'.map (Kp c)).map (λz:El (.pn lb)=>(z:Option (Nat×El lb)).map Vua):=by rw[h]
 simp [List.map_map]at this;have e:∀(a:El lb->Nat) (k:List (El lb)),k.map ((λz:El (.pn lb)=>(z:Option (Nat×El lb)).map Vua) ∘Kp a)=k.map some:=λa k=>List.map_congr_left λy _=>rfl;have key:∀(a b:List (El lb)),a.map Ua=b.map Ua->a=b:=by
  intro a
  induction a with
  |nil=>intro b h;cases b with
   |nil=>rfl
   |cons _ _=>simp at h
  |cons u a f=>intro b h;cases b with
   |nil=>simp at h
   |cons v b=>
    simp [Vx,Xx,ZL]at h;rw[h.1,f b h.2]
 exact key _ _ this
theorem ZwY{tn tq lt lb:Ty}{f c:El lb->Nat}{x d:ZQ tn tq lt lb}(h:WH f x=WH c d):x=d:=by
 have ⟨q,s,u,n,y,z⟩:=x;have ⟨A,C,D,p,G,I⟩:=d;simp [WH,Vb]at h;obtain⟨rfl,rfl,rfl,i,j,k⟩:=h;obtain rfl:=Zi8 j;obtain rfl:=Zi8 k;have:n=p:=by
  have e:∀(l l' :List (List (El lb))),(l.map λr=>r.map (Kp f))=(l'.map λr=>r.map (Kp c))->l=l' :=by
   intro l
   induction l with
   |nil=>intro l' h;cases l' with
    |nil=>rfl
    |cons a l' =>simp at h
   |cons a l m=>intro l' h;cases l' with
    |nil=>simp at h
    |cons b l' =>
     simp [Vx,Xx]at h;rw[Zi8 h.1,m l' h.2]
  exact e _ _ i
 rw[this]
theorem untag_eq{tn tq lt lb:Ty}{c:El lb->Nat}{x:ZQ tn tq lt lb}(h:X6 c x):untag (WH c x)=Ua x:=by have d:∃(e:ZQ tn tq lt lb) (b:El lb->Nat),X6 b e/\WH c x=WH b e:=⟨x,c,h,rfl⟩;unfold untag;rw[dif_pos d];have ⟨b,_,f⟩:=Classical.choose_spec d;rw[<-ZwY f]
structure ZE where
 tk:List Nat
 br:List Nat
def ZE.none:ZE:=⟨[],[]⟩
def ZE.app(a b:ZE):ZE:=⟨a.tk++b.tk,a.br++b.br⟩
mutual
def Pat.fits:Pat->Ty->Bool
 |.pd c,t=>c==t
 |.own c _,.sl t=>c==t
 |.rows c _,.sl (.sl t)=>c==t
 |.mrows _ _,.ref=>Uc
 |.it _ _,.ref=>Uc
 |.fnd _ _ _ _,.ref=>Uc
 |.owo lb,.sl t=>t== .pn lb
 |.var _ _,.ref=>Uc
 |.ro _,.ref=>Uc
 |.map _ _,.ref=>Uc
 |.fn _ _,.ref=>Uc
 |.nilr,.ref=>Uc
 |.nils,.sl _=>Uc
 |.agg l,t=>l.fits t
 |_,_=>Ud
def Pats.fits:Pats->Ty->Bool
 |.nil,.unit=>Uc
 |.cons p l,.prod a b=>p.fits a&&l.fits b
 |_,_=>Ud
end
mutual
def ext:(p:Pat)->AV->Zy (K6 p×ZE)
 |.pd t,v=>(Kk t v).bind λr=>.ret (r.1,⟨[],r.2⟩)
 |.own t _,v=>(JS t v).bind λr=>.ret (r.1,⟨r.2,[]⟩)
 |.var t p,v=>(match v with
  |.ptr id []=>.getH id fun
   |some (.var b c)=>bif b==t&&p.fits t then(ext p c).bind λr=>.ret (r.1,⟨id::r.2.tk,r.2.br⟩) else .fail
   |_=>.fail
  |_=>.fail)
 |.ro t,v=>(match v with
  |.ptr id []=>.getH id fun
   |some (.var _ (.d b x))=>.opt (Kz b t x) λy=>.ret (y,⟨[],[id]⟩)
   |_=>.fail
  |.dp b x=>.opt (Kz b t x) λy=>.ret (y,ZE.none)
  |_=>.fail)
 |.map i u,v=>(match v with
  |.mp id=>.getH id fun
   |some (.map k e m)=>.opt (Kz (.sl (.prod k e)) (.sl (.prod i u)) m) λy=>.ret (y,⟨[id],[]⟩)
   |_=>.fail
  |_=>.fail)
 |.rows t _,v=>(Yz t v).bind λr=>.ret (r.1,⟨r.2,[]⟩)
 |.mrows i t,v=>(match v with
  |.mp id=>.getH id fun
   |some (.mrows k b m _ Ub)=>.opt (Kz (.sl (.prod k (.sl b))) (.sl (.prod i (.sl t))) m) λy=>.ret (y,⟨[id],[]⟩)
   |_=>.fail
  |_=>.fail)
 |.it i u,v=>(match v with
  |.ptr id []=>.getH id fun
   |some (.rng k e m _)=>.opt (Kz (.sl (.prod k e)) (.sl (.prod i u)) m) λy=>.ret (y,⟨[id],[]⟩)
   |_=>.fail
  |_=>.fail)
 |.fnd tn tq lt lb,v=>(match v with
  |.ptr id []=>.getH id fun
   |some (.fnd q s n j x)=>.opt (Kz (Zlu q s n j) (Zlu tn tq lt lb) x) λy=>.ret (y,⟨[id],[]⟩)
   |some (.var t (.agg (.cons K (.cons L (.cons M (.cons N (.cons O (.cons Q .nil))))))))=>bif t==Jk tn tq lt lb then
     (Kk tn K).bind λz=>(Kk tq L).bind λA=>(Kk lt M).bind λC=>(Yz (.pn lb) N).bind λD=>(Rh lb O).bind λG=>(JS (.pn lb) Q).bind λI=>
       .opt (untag (tn:=tn) (tq:=tq) (lt:=lt) (lb:=lb) (z.1,A.1,C.1,D.1,G.1,I.1)) λy=>.ret (y,⟨id::(D.2++(G.2++I.2)),z.2++(A.2++C.2)⟩) else .fail
   |_=>.fail
  |_=>.fail)
 |.owo lb,v=>(Rh lb v).bind λr=>.ret (r.1,⟨r.2,[]⟩)
 |.agg l,v=>(match v with
  |.agg vs=>WK l vs
  |.d t x=>bif (Hl t x).fits t then WK l (Hl t x) else .fail
  |_=>.fail)
 |.fn f l,v=>(match v with
  |.fn J h=>bif Vd J f then WK l h else .fail
  |_=>.fail)
 |.nilr,v=>(match v with
  |.nilr _=>.ret ((),ZE.none)
  |_=>.fail)
 |.nils,v=>(match v with
  |.nils=>.ret ((),ZE.none)
  |_=>.fail)
 |.any,_=>.ret ((),ZE.none)
def WK:(l:Pats)->Zo->Zy (Kw l×ZE)
 |.nil,.nil=>.ret ((),ZE.none)
 |.cons p l,.cons v vs=>(ext p v).bind λx=>(WK l vs).bind λy=>.ret ((x.1,y.1),x.2.app y.2)
 |_,_=>.fail
end
mutual
def inj:(p:Pat)->K6 p->Nat->AV×List (Nat×K5)×Nat
 |.pd t,x,n=>(.d t x,[],n)
 |.own t _,x,n=>(.vw n,[(n,.vec t x)],n+1)
 |.var t p,x,n=>let r:=inj p x (n+1);(.ptr n [],(n,.var t r.1)::r.2.1,r.2.2)
 |.ro t,x,n=>(.dp t x,[],n)
 |.map b c,x,n=>(.mp n,[(n,.map b c x)],n+1)
 |.rows t _,x,n=>(.vw n,[(n,.rows t x 0 Ub)],n+1)
 |.mrows b t,x,n=>(.mp n,[(n,.mrows b t x 0 Ub)],n+1)
 |.it b c,x,n=>(.ptr n [],[(n,.rng b c x Ub)],n+1)
 |.fnd tn tq lt lb,x,n=>(.ptr n [],[(n,.fnd tn tq lt lb x)],n+1)
 |.owo lb,x,n=>(.vw n,[(n,.vco lb x)],n+1)
 |.agg l,x,n=>let r:=Kb l x n;(.agg r.1,r.2)
 |.fn f l,x,n=>let r:=Kb l x n;(.fn f r.1,r.2)
 |.nilr,_,n=>(.nilr Ud,[],n)
 |.nils,_,n=>(.nils,[],n)
 |.any,_,n=>(.junk,[],n)
def Kb:(l:Pats)->Kw l->Nat->Zo×List (Nat×K5)×Nat
 |.nil,_,n=>(.nil,[],n)
 |.cons p l,x,n=>let r:=inj p x.1 n;let s:=Kb l x.2 r.2.2;(.cons r.1 s.1,r.2.1++s.2.1,s.2.2)
end
mutual
def Kn:(p:Pat)->AV->Gi p->Nat->List (Nat×Option K5)×Nat
 |.own t Uc,.vw id,x,n=>([(id,Ua (.vec t x))],n)
 |.var t p,.ptr id [],x,n=>let r:=inj p x n;((id,Ua (.var t r.1))::r.2.1.map λo=>(o.1,Ua o.2),r.2.2)
 |.map b c,.mp id,x,n=>([(id,Ua (.map b c x))],n)
 |.rows t Uc,.vw id,x,n=>([(id,Ua (.rows t x n Ub))],n)
 |.mrows b t,.mp id,x,n=>([(id,Ua (.mrows b t x n Ub))],n)
 |.fnd tn tq lt lb,.ptr id [],x,n=>([(id,Ua (.fnd tn tq lt lb x))],n)
 |.agg l,.agg vs,x,n=>JU l vs x n
 |.fn _ l,.fn _ vs,x,n=>JU l vs x n
 |_,_,_,n=>([],n)
def JU:(l:Pats)->Zo->Wi l->Nat->List (Nat×Option K5)×Nat
 |.nil,_,_,n=>([],n)
 |.cons p l,.cons v vs,x,n=>let r:=Kn p v x.1 n;let s:=JU l vs x.2 r.2;(r.1++s.1,s.2)
 |.cons _ _,.nil,_,n=>([],n)
end
structure Spec where
 args:Pats
 res:Pats
 fns:List FuncId
 α:Type
 f:Kw args->Option α
 unp:α->Wi args×Kw res
 pl:Bool:=Uc
 kp:List (Nat×Nat×Nat):=[]
abbrev KF:=List (Nat×Option K5)
structure Z9 where
 ty:TypeId->Option Ty
 mty:TypeId->Option (Ty×Ty)
 rw:TypeId->Bool:=λ_=>Ud
 zx:TypeId->Bool:=λ_=>Ud
 bd:TypeId->Option TypeId:=λ_=>Ub
 pk:TypeId->Nat:=λ_=>0
 specs:FuncId->List Spec
 nt:Nat
 ks:List Nat
 pz:TypeId->Bool:=λ_=>Ud
 st:Nat:=0
 inl:FuncId->Option (Nat->Zo->Zy (AV×KF)):=λ_=>Ub
def Z9.stp(E:Z9):Nat:=E.st+64
def KT(n:Nat):List Nat->Bool
 |[]=>Ud
 |k::l=>Vd n k||KT n l
def GD:List Nat->Bool
 |[]=>Uc
 |n::l=> !KT n l&&GD l
def J7:List Nat->List Nat->Bool
 |[],_=>Uc
 |n::l,m=> !KT n m&&J7 l m
def ZE.ok(i:ZE)(fz:List Nat):Bool:=GD i.tk&&J7 i.br i.tk&&J7 i.tk fz
def Ty.flat:Ty->Bool
 |.sl _=>Ud
 |.ref=>Ud
 |.pt _=>Ud
 |.lk _ _=>Ud
 |.pn _=>Ud
 |.prod a b=>a.flat&&b.flat
 |.arr _ t=>t.flat
 |_=>Uc
mutual
def Pat.flat:Pat->Bool
 |.pd t=>t.flat
 |.own t _=>t.flat
 |.var _ p=>p.flat
 |.ro _=>Ud
 |.map b c=>b.flat&&c.flat
 |.rows t _=>t.flat
 |.mrows b t=>b.flat&&t.flat
 |.it b c=>b.flat&&c.flat
 |.fnd _ _ _ _=>Ud
 |.owo _=>Ud
 |.agg l=>l.flat
 |.fn _ l=>l.flat
 |.nilr=>Uc
 |.nils=>Uc
 |.any=>Uc
def Pats.flat:Pats->Bool
 |.nil=>Uc
 |.cons p l=>p.flat&&l.flat
end
mutual
def Pat.oflat:Pat->Bool
 |.own t k=> !k||t.flat
 |.var _ p=>p.flat
 |.map b c=>b.flat&&c.flat
 |.rows t k=> !k||t.flat
 |.mrows b t=>b.flat&&t.flat
 |.fnd _ _ _ _=>Ud
 |.agg l=>l.oflat
 |.fn _ l=>l.oflat
 |_=>Uc
def Pats.oflat:Pats->Bool
 |.nil=>Uc
 |.cons p l=>p.oflat&&l.oflat
end
mutual
def Pat.sz:Pat->Nat
 |.pd t=>t.size
 |.agg l=>l.sz
 |_=>1
def Pats.sz:Pats->Nat
 |.nil=>0
 |.cons p l=>p.sz+l.sz
end
mutual
def Pat.noAny:Pat->Bool
 |.any=>Ud
 |.var _ p=>p.noAny
 |.agg l=>l.noAny
 |.fn _ l=>l.noAny
 |_=>Uc
def Pats.noAny:Pats->Bool
 |.nil=>Uc
 |.cons p l=>p.noAny&&l.noAny
end
def Pats.wf:Pats->Bool
 |.nil=>Uc
 |.cons .any l=>l.wf
 |.cons p l=>p.noAny&&l.wf
def Zo.ofList:List AV->Zo
 |[]=>.nil
 |v::l=>.cons v (Zo.ofList l)
def Zo.app:Zo->Zo->Zo
 |.nil,m=>m
 |.cons v l,m=>.cons v (l.app m)
def Zo.nth:Zo->Nat->Option AV
 |.nil,_=>Ub
 |.cons v _,0=>Ua v
 |.cons _ l,n+1=>l.nth n
def Zc2:Zo->List FuncId
 |.nil=>[]
 |.cons (.fn f _) l=>f::Zc2 l
 |.cons _ l=>Zc2 l
def Zoz:Zo->AV
 |.cons v .nil=>v
 |l=>.tup l
def Wu:Nat:=64
def Zci(n:Nat):List Nat->Zy Unit
 |[]=>.ret ()
 |id::l=>.getH id fun
  |some (.rows _ _ v _)=>bif Vk v n then Zci n l else .fail
  |some (.mrows _ _ _ v _)=>bif Vk v n then Zci n l else .fail
  |_=>Zci n l
def RO:List Nat->Zy KF
 |[]=>.ret []
 |id::l=>.getH id fun
  |some (.vec t xs)=>(RO l).bind λp=>.ret ((id,Ua (.dat t xs))::p)
  |some (.rows t xs _ Ub)=>(RO l).bind λp=>.ret ((id,Ua (.dat (.sl t) xs))::p)
  |_=>RO l
def ZgX(S:Spec)(nid:Nat)(b:Zo):Zy (AV×KF):=
 (WK S.args b).bind λr=>
   .opt (ZD (r.2.ok [])) λ_=>(Zci nid r.2.tk).bind λ_=>(bif S.res.flat&&S.args.oflat then .ret [] else RO r.2.br).bind λds=>
    .opt (S.f r.1) λz=>
     let y:=S.unp z
     let p:=JU S.args b y.1 nid
     let q:=Kb S.res y.2 p.2
     .opt (ZD (Vda q.2.2 (nid+Wu))) λ_=>.ret (Zoz q.1,(r.2.tk.map λid=>(id,Ub))++(bif S.res.flat&&S.args.oflat then [] else r.2.br.map λid=>(id,Ub))++p.1++(q.2.1.map λo=>(o.1,Ua o.2))++ds)
def DF(id:Nat):KF->Option (Option K5)
 |[]=>Ub
 |p::l=>match DF id l with
  |some o=>Ua o
  |none=>bif Vd p.1 id then Ua p.2 else Ub
def Zo.putNth:Zo->Nat->AV->Zo
 |.nil,_,_=>.nil
 |.cons _ l,0,v=>.cons v l
 |.cons u l,n+1,v=>.cons u (l.putNth n v)
def R0:Ty->Nat->Nat
 |.prod a b,n+1=>a.size+R0 b n
 |_,_=>0
def Zh3(e:Zo)(k:Nat×Nat×Nat)(p:KF):Zy KF:=
 match e.nth k.1 with
 |some (.ptr b [])=>.getH b fun
  |some (.var T (.agg c))=>(match c.nth k.2.1 with
   |some (.vw d)=>.getH d fun
    |some (.vec t _)=>(match DF b p with
     |some (Ua (.var f (.agg h)))=>(match h.nth k.2.1 with
      |some (.vw nid)=>(match DF nid p with
       |some (Ua (.vec i xs))=>bif i==t&&f==T&&Vd (R0 T k.2.1) k.2.2&& !Vd nid b&& !Vd d b then .ret (p++[(nid,Ub),(b,Ub),(d,Ua (.vec i xs)),(b,Ua (.var f (.agg (h.putNth k.2.1 (.vw d)))))]) else .fail
       |_=>.fail)
      |_=>.fail)
     |_=>.fail)
    |_=>.fail
   |_=>.fail)
  |_=>.fail
 |_=>.fail
def Zdb(b:Zo):List (Nat×Nat×Nat)->KF->Zy KF
 |[],p=>.ret p
 |k::l,p=>(Zh3 b k p).bind λq=>Zdb b l q
def Zem(S:Spec)(nid:Nat)(b:Zo):Zy (AV×KF):=
 (ZgX S nid b).bind λr=>(Zdb b S.kp r.2).bind λp=>.ret (r.1,p)
def Zbp(nid:Nat)(c:Zo):List Spec->Zy (AV×KF)
 |[]=>.fail
 |[S]=>Zem S nid c
 |S::l=>(WK S.args c).bind λr=>.bool (S.f r.1).isSome λb=>bif b then Zem S nid c else Zbp nid c l
def RS(fns:List FuncId):List Spec->List Spec
 |[]=>[]
 |S::l=>bif S.fns==fns then S::RS fns l else RS fns l
def Zeg:Value->AV
 |.bool b=>.d .bool b
 |.int k n=>.d (.int k) n
 |.string s=>.d .str s.data.toList
 |.pointer none=>.nilr Uc
 |.nilFunc=>.nilr Ud
 |.map none=>.nilr Ud
 |.slice Ub 0 0=>.nils
 |_=>.junk
def Zz(F:Nat->AV):Operand->AV
 |.tmp t=>F t
 |.const v=>Zeg v
 |.global _=>.junk
 |.func f=>bif Vk f WQ then .fn f .nil else .junk
def ZiG(k:IntKind)(x y:Int):Option Int:=if y=0 then Ub else Ua (k.wrap (x.tdiv y))
def ZiH(x y:Int):Option Int:=if y=0 then Ub else Ua (x.tmod y)
def GE(k:IntKind)(x y:Int):Option Int:=if y<0 then Ub else Ua (k.wrap (x*2 ^ (min y.toNat k.bits)))
def G9(k:IntKind)(x y:Int):Option Int:=if y<0 then Ub else Ua (x.fdiv (2 ^ (min y.toNat k.bits)))
def ZC(k:IntKind)(x y:Int):Int:=k.wrap (Vp k.bits x &&& Vp k.bits y).toNat
def Wa(k:IntKind)(x y:Int):Int:=k.wrap (Vp k.bits x ||| Vp k.bits y).toNat
def ZvF(k:IntKind)(x y:Int):Int:=k.wrap (Vp k.bits x ^^^ Vp k.bits y).toNat
def qandNot(k:IntKind)(x y:Int):Int:=k.wrap (Vp k.bits x &&& ~~~ Vp k.bits y).toNat
def imin(x y:Int):Int:=if y<x then y else x
def imax(x y:Int):Int:=if x<y then y else x
def Zaj(op:BinOp)(k:IntKind)(x y:Int):Zy AV:=
 match op with
 |.add=>.ret (.d (.int k) (k.wrap (x+y)))
 |.sub=>.ret (.d (.int k) (k.wrap (x - y)))
 |.mul=>.ret (.d (.int k) (k.wrap (x*y)))
 |.quo=>.opt (ZiG k x y) λz=>.ret (.d (.int k) z)
 |.rem=>.opt (ZiH x y) λz=>.ret (.d (.int k) z)
 |.and=>.ret (.d (.int k) (ZC k x y))
 |.or=>.ret (.d (.int k) (Wa k x y))
 |.xor=>.ret (.d (.int k) (ZvF k x y))
 |.andNot=>.ret (.d (.int k) (qandNot k x y))
 |.shl=>.opt (GE k x y) λz=>.ret (.d (.int k) z)
 |.shr=>.opt (G9 k x y) λz=>.ret (.d (.int k) z)
 |.eql=>.ret (.d .bool (Ue (x=y)))
 |.neq=>.ret (.d .bool (!Ue (x=y)))
 |.lss=>.ret (.d .bool (Ue (x<y)))
 |.leq=>.ret (.d .bool (Ue (x<=y)))
 |.gtr=>.ret (.d .bool (Ue (y<x)))
 |.geq=>.ret (.d .bool (Ue (y<=x)))
def catStr(x y:List UInt8):Option (List UInt8):=bif Ue (x.length+y.length<2 ^ 62) then Ua (x++y) else Ub
def ZgP(op:BinOp)(x y:List UInt8):Zy AV:=
 match op with
 |.add=>.opt (catStr x y) λz=>.ret (.d .str z)
 |.eql=>.ret (.d .bool (Ue (x=y)))
 |.neq=>.ret (.d .bool (!Ue (x=y)))
 |.lss=>.ret (.d .bool (Op.bytesLess x y))
 |.gtr=>.ret (.d .bool (!(Op.bytesLess x y||decide (x=y))))
 |.leq=>.ret (.d .bool (Op.bytesLess x y||decide (x=y)))
 |.geq=>.ret (.d .bool (!Op.bytesLess x y))
 |_=>.fail
def ZlQ:AV->Bool
 |.dp _ _=>Uc
 |.ptr _ _=>Uc
 |.vp _ _ _=>Uc
 |.np _ _ _ _ _ _=>Uc
 |.mp _=>Uc
 |.fn _ _=>Uc
 |_=>Ud
def ZgC(θ:TypeId->Option Ty)(T:TypeId)(op:BinOp)(x y:AV):Zy AV:=
 match x,y with
 |.d (.int k) a,.d (.int e) b=>(match op with
  |.shl=>Zaj .shl k a b
  |.shr=>Zaj .shr k a b
  |op=>bif k==e then Zaj op k a b else .fail)
 |.d .str a,.d .str b=>ZgP op a b
 |.d t a,.d c b=>(match op with
  |.eql=>bif θ T==Ua t&&Vda t.dep 100 then .opt (Kz c t b) λb=>.opt (eqEl t a b) λr=>.ret (.d .bool r) else .fail
  |.neq=>bif θ T==Ua t&&Vda t.dep 100 then .opt (Kz c t b) λb=>.opt (eqEl t a b) λr=>.ret (.d .bool (!r)) else .fail
  |_=>.fail)
 |_,_=>.fail
def Zfm(k:Nat)(v:AV)(y:Operand):Bool:=match y with
 |.const (.pointer Ub)=>Vd k 1&&(match v with|.ptr _ _=>Uc|_=>Ud)
 |.const .nilFunc=>Vd k 2&&(match v with|.fn _ _=>Uc|_=>Ud)
 |.const (.map Ub)=>Vd k 3&&(match v with|.mp _=>Uc|_=>Ud)
 |_=>Ud
def aun(op:UnOp)(x:AV):Zy AV:=
 match op,x with
 |.not,.d .bool b=>.ret (.d .bool (!b))
 |.neg,.d (.int k) n=>.ret (.d (.int k) (k.wrap (0 - n)))
 |_,_=>.fail
def zeroEl:(t:Ty)->El t
 |.int _=>(0:Int)
 |.bool=>Ud
 |.str=>([]:List UInt8)
 |.sl t=>([]:List (El t))
 |.unit=>()
 |.prod a b=>(zeroEl a,zeroEl b)
 |.arr n t=>Vba n (zeroEl t)
 |.ref=>()
 |.pt t=>(none:Option (El t))
 |.lk a b=>([]:List (El a×El b))
 |.pn t=>(none:Option (Nat×El t))
def Ty.data:Ty->Bool
 |.ref=>Ud
 |.pt t=>t.data
 |.lk a b=>a.data&&b.data
 |.pn t=>t.data
 |.sl t=>t.data
 |.prod a b=>a.data&&b.data
 |.arr _ t=>t.data
 |_=>Uc
def Zgi:Ty->AV
 |.ref=>.nilr Ud
 |.sl _=>.nils
 |a=>.jk a.size
def Ty.isSl:Ty->Bool
 |.sl _=>Uc
 |_=>Ud
def Hz(z:Bool)(a:Ty):AV:=bif a.data&&(z|| !a.isSl) then .d a (zeroEl a) else Zgi a
def DS(z:Bool):Ty->Zo
 |.prod a b=>.cons (Hz z a) (DS z b)
 |_=>.nil
def X1(t:Ty):AV:=
 bif t.data&& !t.isSl then .d t (zeroEl t) else match t with
  |.ref=>.nilr Ud
  |.sl _=>.nils
  |.prod a b=>.agg (DS Ud (.prod a b))
  |t=>.jk t.size
def ZdL(x:Bool)(t:Ty):AV:=bif x then(match t with
 |.prod a b=>.agg (DS Ud (.prod a b))
 |t=>X1 t) else X1 t
def RM(z:Bool)(parts:List (Nat×AV)):Ty->Nat->Zo
 |.prod a b,n=>.cons ((parts.lookup n).getD (Hz z a)) (RM z parts b (n+1))
 |_,_=>.nil
def G4:Zo->Option DV
 |.nil=>Ua ⟨.unit,()⟩
 |.cons (.d t x) l=>match G4 l with
  |some ⟨u,y⟩=>Ua ⟨.prod t u,(x,y)⟩
  |none=>Ub
 |_=>Ub
def Zdf(l:Zo):AV:=match G4 l with
 |some ⟨t,x⟩=>.d t x
 |none=>.agg l
def Zan(t:Ty)(parts:List (Nat×AV)):Nat->Nat->Option (List (El t))
 |0,_=>Ua []
 |m+1,n=>match (parts.lookup n).getD (.d t (zeroEl t)) with
  |.d b x=>(Kz b t x).bind λy=>(Zan t parts m (n+1)).bind λl=>Ua (y::l)
  |_=>Ub
def Ze2(e:Ty):List (Nat×AV)->Zy (List (Nat×AV)×List Nat)
 |[]=>.ret ([],[])
 |p::l=>(Kk e p.2).bind λx=>(Ze2 e l).bind λr=>.ret ((p.1,.d e x.1)::r.1,x.2++r.2)
def fieldsOf:Ty->Nat
 |.prod _ b=>fieldsOf b+1
 |_=>0
def Ty.isStruct:Ty->Bool
 |.prod _ _=>Uc
 |.unit=>Uc
 |_=>Ud
def ZI:Nat:=2 ^ 39
def ZjJ(t:Ty)(nid:Nat)(s x:AV):Zy (AV×KF):=
 (JS t s).bind λr=>(D3 t x).bind λy=>
   .opt (ZD (Ue (r.1.length+y.1.length<=ZI))) λ_=>
    .ret (.vw nid,(r.2.map λid=>(id,Ub))++[(nid,Ua (.vec t (r.1++y.1)))])
def Zd5(id nid:Nat)(c:Ty)(k:El c):Zy K5:=
 .getH id fun
  |some (.rows t xs v Ub)=>bif Vk v nid then .opt (Kz c (.int .i64) k) λi=>.ret (.rows t xs nid (Ua i.toNat)) else .fail
  |some (.mrows b t m v Ub)=>bif Vk v nid then .opt (Kz c b k) λd=>.ret (.mrows b t m nid (Ua d)) else .fail
  |_=>.fail
def ZgD(id:Nat)(d:Ty)(k:El d)(t:Ty)(row:List (El t)):Zy K5:=
 .getH id fun
  |some (.rows c xs v Ub)=>.opt (Kz d (.int .i64) k) λi=>.opt (Kz (.sl t) (.sl c) row) λy=>.ret (.rows c (xs.set i.toNat y) v Ub)
  |some (.mrows b c m v Ub)=>.opt (Kz d b k) λe=>.opt (Kz (.sl t) (.sl c) row) λy=>.ret (.mrows b c (Kv (Zr b) e y m) v Ub)
  |_=>.fail
def ZjK(t:Ty)(nid id ver:Nat)(b:Ty)(k:El b)(x:AV):Zy (AV×KF):=
 (Yo id ver b k).bind λr=>.opt (Kz (.sl r.1) (.sl t) r.2) λxs=>(D3 t x).bind λy=>
   .opt (ZD (Ue (xs.length+y.1.length<=ZI))) λ_=>.opt (ZD (!KT id y.2)) λ_=>(Zd5 id nid b k).bind λo=>
    .ret (.vw nid,[(id,Ua o),(nid,Ua (.vec t (xs++y.1)))])
def ZjL(t:Ty)(nid:Nat)(s x:AV):Zy (AV×KF):=
 (Yz t s).bind λr=>(Yz t x).bind λy=>
   .opt (ZD (Ue (r.1.length+y.1.length<=ZI))) λ_=>.opt (ZD (GD (r.2++y.2))) λ_=>
    .ret (.vw nid,((r.2++y.2).map λid=>(id,Ub))++[(nid,Ua (.rows t (r.1++y.1) 0 Ub))])
def Zek(t:Ty)(parts:List (Nat×AV)):Nat->Nat->Zy (List (List (El t))×List Nat)
 |0,_=>.ret ([],[])
 |m+1,n=>(JS t ((parts.lookup n).getD .nils)).bind λx=>(Zek t parts m (n+1)).bind λy=>.ret (x.1::y.1,x.2++y.2)
def RW(h:Option Nat)(i:Nat):Bool:=match h with
 |none=>Uc
 |some j=>Vd j i
def holeK(b:Ty)(h:Option (El b))(k:El b):Bool:=match h with
 |none=>Uc
 |some j=>Zr b j k
def JP:Option Ty->Bool
 |some (.sl _)=>Uc
 |_=>Ud
def ZjU(t:Option Ty)(mp:Bool)(v:AV):Zy AV:=
 match v with
 |.d (.sl _) xs=>bif JP t then .ret (.d (.int .i64) (xs.length:Int)) else .fail
 |.d .str xs=>bif t==Ua .str then .ret (.d (.int .i64) (xs.length:Int)) else .fail
 |.nils=>bif JP t then .ret (.d (.int .i64) (0:Int)) else .fail
 |.vs _ _ n=>bif JP t then .ret (.d (.int .i64) (n:Int)) else .fail
 |.vw id=>bif JP t then .getH id fun
  |some (.vec _ xs)=>.ret (.d (.int .i64) (xs.length:Int))
  |some (.rows _ xs _ _)=>.ret (.d (.int .i64) (xs.length:Int))
  |some (.dat _ xs)=>.ret (.d (.int .i64) (xs.length:Int))
  |some (.vco _ xs)=>.ret (.d (.int .i64) (xs.length:Int))
  |_=>.fail else .fail
 |.nw id ver b k=>bif JP t then(Yo id ver b k).bind λr=>.ret (.d (.int .i64) (r.2.length:Int)) else .fail
 |.mp id=>bif mp then .getH id fun
  |some (.map _ _ m)=>.ret (.d (.int .i64) (m.length:Int))
  |_=>.fail else .fail
 |_=>.fail
def G8(n:Nat):List Nat->Bool
 |[]=>Uc
 |i::l=>Vda (i+1) n&& !(l.contains i)&&G8 n l
def Zbf(f:Int->Int->Int)(k:IntKind):Int->List AV->Zy AV
 |a,[]=>.ret (.d (.int k) a)
 |a,.d (.int c) b::l=>bif c==k then Zbf f k (f a b) l else .fail
 |_,_=>.fail
def AV.solid:AV->Bool
 |.jk _=>Ud
 |_=>Uc
def KW(v:AV):Option Int:=match v with
 |.d (.int _) n=>Ua n
 |_=>Ub
def sliceB(len cap:Nat)(c b:Option Int):Option (Nat×Nat):=
 let h:Option Nat:=match b with|some x=>if 0<=x/\x<=cap then Ua x.toNat else Ub|none=>Ua len
 h.bind λh=>match c with
  |some x=>if 0<=x/\x<=h then Ua (x.toNat,h) else Ub
  |none=>Ua (0,h)
def XS(b:Operand->AV):Option Operand->Bool
 |some x=>(KW (b x)).isSome
 |none=>Uc
def Hg:AV->Option Nat
 |.d t _=>Ua t.size
 |.dp _ _=>Ua 1
 |.ptr _ _=>Ua 1
 |.vp _ _ _=>Ua 1
 |.mp _=>Ua 1
 |.fn _ _=>Ua 1
 |.nilr _=>Ua 1
 |.nils=>Ua 1
 |.vw _=>Ua 1
 |.vs _ _ _=>Ua 1
 |.nw _ _ _ _=>Ua 1
 |.np _ _ _ _ _ _=>Ua 1
 |_=>Ub
def Zbt(v:AV):Bool:= !v.isAgg&&(match Hg v with
 |some n=>Vd n 1
 |none=>Ud)
def D7:Zo->Bool
 |.nil=>Uc
 |.cons v l=>Zbt v&&D7 l
def Zdi:List AV->Bool
 |[]=>Uc
 |.tup _::_=>Ud
 |_::l=>Zdi l
def ZS(E:Z9)(nid:Nat)(op:Op)(_rt:TypeId)(A:Operand->AV):Zy (AV×KF):=
 match op with
 |.move x=>.ret (A x,[])
 |.assign x=>.ret (A x,[])
 |.pick c a b=>(match A c with
  |.d .bool t=>.bool t λt=>.ret (bif t then A a else A b,[])
  |_=>.fail)
 |.alloc T=>.opt (E.ty T) λt=>.ret (.ptr nid [],[(nid,Ua (.var t (ZdL (E.zx T) t)))])
 |.box T x=>.opt (E.ty T) λt=>bif (A x).fits t then .ret (.ptr nid [],[(nid,Ua (.var t (A x)))]) else .fail
 |.build T N=>.opt (E.ty T) λt=>(match t with
  |.prod a b=>bif !G8 (fieldsOf (.prod a b)) (N.toList.map (·.1)) then .fail else let l:=RM (Ty.data (.prod a b)&& !E.zx T) (N.toList.map λp=>(p.1,A p.2)) (.prod a b) 0;bif l.fits (.prod a b) then(bif E.rw T then(Kk (.prod a b) (Zdf l)).bind λr=>.ret (.d (.prod a b) r.1,r.2.map λid=>(id,Ub)) else .ret (Zdf l,[])) else .fail
  |.arr n e=>bif !G8 n (N.toList.map (·.1)) || !e.data then .fail else .opt (Zan e (N.toList.map λp=>(p.1,A p.2)) n 0) λl=>.ret (.d (.arr n e) l,[])
  |_=>.fail)
 |.buildSlice T n N=>.opt (E.ty T) λt=>(match t with
  |.sl e=>bif E.rw T then(match e with
    |.sl O=>bif !G8 n (N.toList.map (·.1)) ||Vk (2 ^ 24) n then .fail else(Zek O (N.toList.map λp=>(p.1,A p.2)) n 0).bind λr=>.opt (ZD (GD r.2)) λ_=>.ret (.vw nid,(r.2.map λid=>(id,Ub))++[(nid,Ua (.rows O r.1 0 Ub))])
    |_=>.fail) else bif !G8 n (N.toList.map (·.1)) || !e.data||Vk (2 ^ 24) (n*e.size) then .fail else(Ze2 e (N.toList.map λp=>(p.1,A p.2))).bind λr=>.opt (Zan e r.1 n 0) λl=>(RO r.2).bind λds=>.ret (.vw nid,(r.2.map λid=>(id,Ub))++[(nid,Ua (.vec e l))]++ds)
  |_=>.fail)
 |.load T a=>.opt (E.ty T) λt=>(match A a with
  |.dp Q x=>bif Q==t then .ret (.d Q x,[]) else .fail
  |.ptr id p=>.getH id fun
   |some (.var _ c)=>(GX c p).bind λv=>bif v.fits t&&v.solid then .ret (v,[]) else .fail
   |some (.fnd U V lt _ x)=>(GX (Ze1 U V lt x) p).bind λv=>bif v.fits t&&v.solid then .ret (v,[]) else .fail
   |_=>.fail
  |.vp id i p=>.getH id fun
   |some (.vec _ xs)=>.opt xs[i]? λx=>(GY _ x p).bind λv=>bif v.1==t then .ret (.d v.1 v.2,[]) else .fail
   |some (.rows I xs v Ub)=>bif p.isEmpty&&t== .sl I then .opt xs[i]? λ_=>.ret (.nw id v (.int .i64) (i:Int),[]) else .fail
   |_=>.fail
  |.np id ver D k i p=>(Yo id ver D k).bind λr=>.opt r.2[i]? λx=>(GY _ x p).bind λv=>bif v.1==t then .ret (.d v.1 v.2,[]) else .fail
  |_=>.fail)
 |.store T a x=>.opt (E.ty T) λt=>bif (A x).fits t then(match A a with
  |.ptr id p=>.getH id fun
   |some (.var I c)=>(Rm I c p (A x)).bind λY=>.ret (.junk,[(id,Ua (.var I Y))])
   |_=>.fail
  |.vp id i p=>.getH id fun
   |some (.vec I xs)=>.opt xs[i]? λe=>.opt (A x).dv? λy=>(Xr I e p y).bind λO=>.ret (.junk,[(id,Ua (.vec I (xs.set i O)))])
   |some (.rows I xs v h)=>bif p.isEmpty&&t== .sl I&&Vk v nid then .opt (ZD (RW h i)) λ_=>.opt xs[i]? λ_=>(JS I (A x)).bind λr=>.ret (.junk,(r.2.map λid=>(id,Ub))++[(id,Ua (.rows I (xs.set i r.1) nid Ub))]) else .fail
   |_=>.fail
  |.np id ver D k i p=>(Yo id ver D k).bind λr=>.opt r.2[i]? λe=>.opt (A x).dv? λy=>(Xr r.1 e p y).bind λO=>(ZgD id D k r.1 (r.2.set i O)).bind λo=>.ret (.junk,[(id,Ua o)])
  |_=>.fail) else .fail
 |.nilCheck x=>bif ZlQ (A x) then .ret (A x,[]) else .fail
 |.binOp op T x y _=>bif Zfm (E.pk T) (A x) y then(match op with
   |.eql=>.ret (.d .bool Ud,[])
   |.neq=>.ret (.d .bool Uc,[])
   |_=>.fail) else(ZgC E.ty T op (A x) (A y)).bind λv=>.ret (v,[])
 |.unOp op _ x=>(aun op (A x)).bind λv=>.ret (v,[])
 |.convert S T x=>.opt (E.ty S) λs=>.opt (E.ty T) λt=>(match t,A x with
  |.int k,.d (.int _) n=>.ret (.d (.int k) (k.wrap n),[])
  |.str,v=>bif s== .sl (.int .u8) then(D3 (.int .u8) v).bind λr=>.ret (.d .str (Zel r.1),[]) else .fail
  |_,_=>.fail)
 |.makeFunc (.func f) first G=>bif first.isEmpty&&Vk f WQ&&D7 (Zo.ofList (G.toList.map A)) then .ret (.fn f (Zo.ofList (G.toList.map A)),[]) else .fail
 |.makeMap T r=>.opt (E.mty T) λm=>bif E.rw T then(match m with
   |(D,.sl t)=>bif D.keyOk&&(match r with|none=>Uc|some x=>(KW (A x)).isSome) then .ret (.mp nid,[(nid,Ua (.mrows D t [] 0 Ub))]) else .fail
   |_=>.fail) else bif m.1.keyOk&&(match r with|none=>Uc|some x=>(KW (A x)).isSome) then .ret (.mp nid,[(nid,Ua (.map m.1 m.2 []))]) else .fail
 |.makeSlice T l c=>.opt (E.ty T) λt=>(match t,A l,A c with
  |.sl e,.d (.int _) n,.d (.int _) m=>bif E.rw T then(match e with
    |.sl O=>.opt (ZD (Ue (0<=n/\n<=m/\m<=ZI))) λ_=>.ret (.vw nid,[(nid,Ua (.rows O (Vba n.toNat []) 0 Ub))])
    |_=>.fail) else bif !e.data then .fail else .opt (ZD (Ue (0<=n/\n<=m/\m<=ZI))) λ_=>.ret (.vw nid,[(nid,Ua (.vec e (Vba n.toNat (zeroEl e))))])
  |_,_,_=>.fail)
 |.slice T x J M none=>bif !(XS A J&&XS A M) then .fail else(match A x with
  |.d (.sl t) xs=>bif !(E.ty T==Ua (.sl t)) then .fail else .opt (sliceB xs.length xs.length (J.bind λo=>KW (A o)) (M.bind λo=>KW (A o))) λr=>.ret (.d (.sl t) ((xs.drop r.1).take (r.2 - r.1)),[])
  |.d .str xs=>bif !(E.ty T==Ua .str) then .fail else .opt (sliceB xs.length xs.length (J.bind λo=>KW (A o)) (M.bind λo=>KW (A o))) λr=>.ret (.d .str ((xs.drop r.1).take (r.2 - r.1)),[])
  |.nils=>(match E.ty T with
   |some (.sl _)=>.opt (sliceB 0 0 (J.bind λo=>KW (A o)) (M.bind λo=>KW (A o))) λ_=>.ret (.nils,[])
   |_=>.fail)
  |.vw id=>.getH id fun
   |some (.vec t xs)=>bif !(E.ty T==Ua (.sl t)) then .fail else .opt (sliceB xs.length xs.length (J.bind λo=>KW (A o)) (M.bind λo=>KW (A o))) λr=>(match J with|none=>.ret (.vs id 0 r.2,[]) |some _=>.ret (.vs id r.1 (r.2 - r.1),[]))
   |some (.dat t xs)=>bif !(E.ty T==Ua (.sl t)) then .fail else .opt (sliceB xs.length xs.length (J.bind λo=>KW (A o)) (M.bind λo=>KW (A o))) λr=>.ret (.d (.sl t) ((xs.drop r.1).take (r.2 - r.1)),[])
   |_=>.fail
  |_=>.fail)
 |.slice T x J (Ua M) (Ua mx)=>bif !(XS A J&&XS A (Ua M)) then .fail else(match A x with
  |.vw id=>.getH id fun
   |some (.vec t xs)=>bif !(E.ty T==Ua (.sl t)) then .fail else .opt (KW (A mx)) λm=>.opt (Zv m (xs.length+1)) λm=>.opt (sliceB xs.length m (J.bind λo=>KW (A o)) (KW (A M))) λr=>(match J with|none=>.ret (.vs id 0 r.2,[]) |some _=>.ret (.vs id r.1 (r.2 - r.1),[]))
   |_=>.fail
  |_=>.fail)
 |.fieldAddr T x f=>.opt (E.ty T) λt=>.opt (ZX t [f]) λr=>bif Vd r.2.size 0|| !t.isStruct then .fail else(match A x with
  |.dp Q y=>bif Q==t then(GY Q y [f]).bind λv=>.ret (.dp v.1 v.2,[]) else .fail
  |.ptr id p=>.getH id fun
   |some (.var I _)=>.opt (Hx I p) λq=>bif q==t then .ret (.ptr id (p++[f]),[]) else .fail
   |some (.fnd U V lt X _)=>bif (match p with
     |[]=>Jk U V lt X==t||Ye U V lt X==t
     |i::_=>Vk i 3&&Hx (Jk U V lt X) p==Ua t) then .ret (.ptr id (p++[f]),[]) else .fail
   |_=>.fail
  |.vp id i p=>.getH id fun
   |some (.vec I _)=>.opt (ZX I p) λq=>bif q.2==t then .ret (.vp id i (p++[f]),[]) else .fail
   |_=>.fail
  |.np id ver D k i p=>(Yo id ver D k).bind λs=>.opt (ZX s.1 p) λq=>bif q.2==t then .ret (.np id ver D k i (p++[f]),[]) else .fail
  |_=>.fail)
 |.field T x f=>.opt (E.ty T) λt=>.opt (ZX t [f]) λr=>bif !t.isStruct|| !(A x).fits t|| !(A x).solid then .fail else(GX (A x) [f]).bind λv=>bif v.fits r.2&&v.solid then .ret (v,[]) else .fail
 |.indexAddr T x i=>.opt (E.ty T) λL=>(match A x,A i with
  |.d (.sl t) xs,.d (.int _) n=>bif L== .sl t then .opt (idx xs n) λy=>.ret (.dp t y,[]) else .fail
  |.vw id,.d (.int _) n=>.getH id fun
   |some (.vec t xs)=>bif L== .sl t then .opt (Zv n xs.length) λj=>.ret (.vp id j [],[]) else .fail
   |some (.rows t xs _ _)=>bif L== .sl (.sl t) then .opt (Zv n xs.length) λj=>.ret (.vp id j [],[]) else .fail
   |some (.dat t xs)=>bif L== .sl t then .opt (idx xs n) λy=>.ret (.dp t y,[]) else .fail
   |_=>.fail
  |.nw id ver D k,.d (.int _) n=>(Yo id ver D k).bind λr=>bif L== .sl r.1 then .opt (Zv n r.2.length) λj=>.ret (.np id ver D k j [],[]) else .fail
  |.vs id J m,.d (.int _) n=>.getH id fun
   |some (.vec t xs)=>bif L== .sl t then .opt (ZD (Ue (J+m<=xs.length))) λ_=>.opt (Zv n m) λj=>.ret (.vp id (J+j) [],[]) else .fail
   |_=>.fail
  |.dp (.arr m t) xs,.d (.int _) n=>bif L== .arr m t then .opt (idx xs n) λy=>.ret (.dp t y,[]) else .fail
  |.ptr id p,.d (.int _) n=>.getH id fun
   |some (.var I _)=>.opt (ZX I p) λq=>(match q.2 with
    |.arr m t=>bif L== .arr m t then .opt (Zv n m) λj=>.ret (.ptr id (p++[j]),[]) else .fail
    |_=>.fail)
   |_=>.fail
  |_,_=>.fail)
 |.index T x i=>.opt (E.ty T) λL=>(match A x,A i with
  |.d (.arr m t) xs,.d (.int _) n=>bif L== .arr m t&& !Vd t.size 0 then .opt (idx xs n) λy=>.ret (.d t y,[]) else .fail
  |.d .str xs,.d (.int _) n=>bif L== .str then .opt (idx xs n) λy=>.ret (.d (.int .u8) (y.toNat:Int),[]) else .fail
  |_,_=>.fail)
 |.lookup T m k ok=>.opt (E.mty T) λmt=>(match A m,A k with
  |.mp id,.d D x=>.getH id fun
   |some (.map C K es)=>bif C.keyOk&&mt.1==C&&mt.2==K&&K.data then .opt (Kz D C x) λy=>
     .ret (bif ok then .tup (.cons (.d K ((ZW (Zr C) y es).getD (zeroEl K))) (.cons (.d .bool (ZW (Zr C) y es).isSome) .nil)) else .d K ((ZW (Zr C) y es).getD (zeroEl K)),[]) else .fail
   |some (.mrows C t m v Ub)=>bif C.keyOk&&mt.1==C&&mt.2== .sl t then .opt (Kz D C x) λy=>
     .ret (bif ok then .tup (.cons (.nw id v C y) (.cons (.d .bool (ZW (Zr C) y m).isSome) .nil)) else .nw id v C y,[]) else .fail
   |_=>.fail
  |_,_=>.fail)
 |.mapUpdate T m k v=>.opt (E.mty T) λmt=>(match A m,A k,A v with
  |.mp id,.d D x,.d K z=>.getH id fun
   |some (.map C W es)=>bif C.keyOk&&mt.1==C then .opt (Kz D C x) λy=>.opt (Kz K W z) λu=>.ret (.junk,[(id,Ua (.map C W (Kv (Zr C) y u es)))]) else .fail
   |_=>.fail
  |.mp id,.d D x,.vw Z=>.getH id fun
   |some (.mrows C t es u h)=>bif C.keyOk&&mt.1==C&&mt.2== .sl t&&Vk u nid then .opt (Kz D C x) λy=>.opt (ZD (holeK C h y)) λ_=>(JS t (.vw Z)).bind λr=>
     .ret (.junk,(r.2.map λid=>(id,Ub))++[(id,Ua (.mrows C t (Kv (Zr C) y r.1 es) nid Ub))]) else .fail
   |_=>.fail
  |_,_,_=>.fail)
 |.range T x=>.opt (E.mty T) λ_=>(match A x with
  |.mp id=>.getH id fun
   |some (.map D K m)=>.ret (.ptr nid [],[(id,Ub),(nid,Ua (.rng D K m Ub))])
   |_=>.fail
  |_=>.fail)
 |.next it false=>(match A it with
  |.ptr id []=>.getH id fun
   |some (.rng _ _ [] _)=>.ret (.tup (.cons (.d .bool Ud) .nil),[])
   |_=>.fail
  |_=>.fail)
 |.entry it=>(match A it with
  |.ptr id []=>.getH id fun
   |some (.rng D K _ (Ua e))=>.ret (.tup (.cons (.d D e.1) (.cons (.d K e.2) .nil)),[])
   |_=>.fail
  |_=>.fail)
 |.extract t i=>(match A t with
  |.tup l=>.opt (l.nth i) λv=>.ret (v,[])
  |_=>.fail)
 |.call c=>(match c.callee with
  |.builtin .len=>(match c.args.toList,c.argTypes[0]? with
   |[x],Ua T=>(ZjU (E.ty T) (E.mty T).isSome (A x)).bind λv=>.ret (v,[])
   |_,_=>.fail)
  |.builtin .min=>(match c.args.toList with
   |x::l=>(match A x with
    |.d (.int k) a=>(Zbf imin k a (l.map A)).bind λv=>.ret (v,[])
    |_=>.fail)
   |_=>.fail)
  |.builtin .max=>(match c.args.toList with
   |x::l=>(match A x with
    |.d (.int k) a=>(Zbf imax k a (l.map A)).bind λv=>.ret (v,[])
    |_=>.fail)
   |_=>.fail)
  |.builtin .append=>(match c.args.toList,(c.argTypes[0]?).bind E.ty with
   |[s,x],Ua (.sl t)=>bif !JP ((c.argTypes[1]?).bind E.ty) then .fail else bif (c.argTypes[0]?).any E.rw then(match t with
      |.sl Q=>ZjL Q nid (A s) (A x)
      |_=>.fail) else(match A s with
      |.nw id ver D k=>ZjK t nid id ver D k (A x)
      |s=>ZjJ t nid s (A x))
   |_,_=>.fail)
  |.value f=>(match A f with
   |.fn f G=>bif !(D7 G&&Zdi (c.args.toList.map A)) then .fail else let R:=bif Vk f WQ then(Zo.ofList (c.args.toList.map A)).app G else G.app (Zo.ofList (c.args.toList.map A))
    Zbp nid R (RS (Zc2 R) (E.specs (Gu f)))
   |_=>.fail)
  |_=>.fail)
 |_=>.fail
def Zfn(v:AV):Zy Bool:=
 match v with
 |.nils=>.ret Uc
 |.d (.sl _) xs=>.opt (ZD (!xs.isEmpty)) λ_=>.ret Ud
 |.vw id=>.getH id fun
  |some (.vec _ xs)=>.opt (ZD (!xs.isEmpty)) λ_=>.ret Ud
  |_=>.fail
 |_=>.fail
def unc{α β:Type}:List (α×β)->Option (α×List (α×β)×β)
 |[]=>Ub
 |y::l=>Ua (y.1,l,y.2)
def Zda:Option Ty->Bool
 |some (.pt _)=>Uc
 |some (.lk _ _)=>Uc
 |some (.pn _)=>Uc
 |_=>Ud
def AV.isPtD:AV->Bool
 |.d (.pt _) _=>Uc
 |.d (.lk _ _) _=>Uc
 |.d (.pn _) _=>Uc
 |_=>Ud
def RP(v:AV):Zy AV:=match v with
 |.d (.pt t) o=>.opt o λy=>.ret (.dp t y)
 |.d (.lk a b) l=>.opt (unc l) λy=>.ret (.dp (ZaP a b) y)
 |.d (.pn t) o=>.opt o λy=>.ret (.dp t y.2)
 |_=>.fail
def ZfA(v:AV):Option Bool:=match v with
 |.d (.pt _) o=>Ua o.isNone
 |.d (.lk _ _) l=>Ua l.isEmpty
 |.d (.pn _) o=>Ua o.isNone
 |_=>Ub
def Je(E:Z9)(nid:Nat)(op:Op)(rt:TypeId)(e:Operand->AV):Zy (AV×KF):=
 match op with
 |.indexAddr T x i=>(match e x,e i with
  |.vw id,.d (.int _) n=>.getH id fun
   |some (.vco h xs)=>bif E.ty T==Ua (.sl (.pn h)) then .opt (Zv n xs.length) λj=>.ret (.op id j,[]) else .fail
   |_=>ZS E nid (.indexAddr T x i) rt e
  |_,_=>ZS E nid (.indexAddr T x i) rt e)
 |.slice T x k z C=>(match e x,C with
  |.vw id,none=>.getH id fun
   |some (.vco h xs)=>bif !(E.ty T==Ua (.sl (.pn h))) || !(XS e k&&XS e z) then .fail else .opt (sliceB xs.length xs.length (k.bind λo=>KW (e o)) (z.bind λo=>KW (e o))) λr=>.ret (.vw nid,[(id,Ub),(nid,Ua (.vco h ((xs.drop r.1).take (r.2 - r.1))))])
   |_=>ZS E nid (.slice T x k z C) rt e
  |.ptr id [],none=>.getH id fun
   |some (.var D (.d (.arr n t) xs))=>bif !(XS e k&&XS e z) || !(E.ty T==Ua (.arr n t)) || !(D== .arr n t) then .fail else .opt (sliceB n n (k.bind λo=>KW (e o)) (z.bind λo=>KW (e o))) λr=>.ret (.d (.sl t) ((xs.drop r.1).take (r.2 - r.1)),[(id,Ub)])
   |_=>ZS E nid (.slice T x k z C) rt e
  |_,_=>ZS E nid (.slice T x k z C) rt e)
 |.nilCheck x=>bif (e x).isPtD then(RP (e x)).bind λ_=>.ret (e x,[]) else ZS E nid op rt e
 |.fieldAddr T x f=>bif (e x).isPtD then(RP (e x)).bind λv=>ZS E nid (.fieldAddr T x f) rt λ_=>v else ZS E nid op rt e
 |.call c=>(match c.callee with
  |.builtin .clear=>(match c.args.toList,(c.argTypes[0]?).bind E.ty with
   |[x],Ua (.sl t)=>(match e x with
    |.vs id k n=>.getH id fun
     |some (.vec A xs)=>bif A==t&&A.data then .opt (ZD (Ue (k+n<=xs.length))) λ_=>.ret (.tup .nil,[(id,Ua (.vec A (xs.take k++Vba n (zeroEl A)++xs.drop (k+n))))]) else .fail
     |_=>.fail
    |_=>.fail)
   |_,_=>.fail)
  |.builtin .append=>(match c.args.toList,(c.argTypes[0]?).bind E.ty with
   |[s,x],Ua (.sl (.pn h))=>(match e s with
    |.vw id=>.getH id fun
     |some (.vco G xs)=>bif !JP ((c.argTypes[1]?).bind E.ty) then .fail else .opt (Kz (.sl (.pn G)) (.sl (.pn h)) xs) λxs=>(D3 (.pn h) (e x)).bind λy=>
       .opt (ZD (Ue (xs.length+y.1.length<=ZI))) λ_=>.ret (.vw nid,[(id,Ub),(nid,Ua (.vco h (xs++y.1)))])
     |_=>ZS E nid op rt e
    |_=>ZS E nid op rt e)
   |_,_=>ZS E nid op rt e)
  |_=>ZS E nid op rt e)
 |.makeFunc fn first m=>bif first.isEmpty then ZS E nid (.makeFunc fn first m) rt e else(match fn with
  |.func f=>bif m.isEmpty&&D7 (Zo.ofList (first.toList.map e)) then .ret (.fn (f+WQ) (Zo.ofList (first.toList.map e)),[]) else .ret (.junk,[])
  |_=>.ret (.junk,[]))
 |.load T a=>bif (e a).isPtD then(RP (e a)).bind λv=>ZS E nid (.load T a) rt λ_=>v else(match e a with
  |.op id j=>.getH id fun
   |some (.vco h xs)=>bif E.ty T==Ua (.pn h) then .opt xs[j]? λx=>.ret (.d (.pn h) x,[]) else .fail
   |_=>.fail
  |_=>ZS E nid op rt e)
 |.store T a x=>bif (Zda (E.ty T) ||JP (E.ty T)&&E.zx T)&& !(e x).isPtD then .opt (E.ty T) λt=>(Kk t (e x)).bind λr=>(match e a with
   |.ptr id p=>bif KT id r.2 then .fail else .getH id fun
    |some (.var D c)=>(Rm D c p (.d t r.1)).bind λI=>.ret (.junk,(r.2.map λi=>(i,Ub))++[(id,Ua (.var D I))])
    |_=>.fail
   |_=>.fail) else ZS E nid op rt e
 |.binOp b T x y _=>(match e x,e y with
  |.d t p,.nilr true=>.opt (ZfA (.d t p)) λr=>bif E.ty T==Ua t then(match b with
   |.eql=>.ret (.d .bool r,[])
   |.neq=>.ret (.d .bool (!r),[])
   |_=>.fail) else .fail
  |.d (.pn t) p,.d (.pn A) q=>bif E.ty T==Ua (.pn t)&&A==t&& !Vd t.size 0 then(match b with
   |.eql=>.ret (.d .bool (Ue (p.map Vg=q.map Vg)),[])
   |.neq=>.ret (.d .bool (!Ue (p.map Vg=q.map Vg)),[])
   |_=>.fail) else .fail
  |u,.nils=>bif JP (E.ty T) then(Zfn u).bind λr=>(match b with
   |.eql=>.ret (.d .bool r,[])
   |.neq=>.ret (.d .bool (!r),[])
   |_=>.fail) else ZS E nid op rt e
  |_,_=>ZS E nid op rt e)
 |op=>ZS E nid op rt e
end
end Tr
end
section
namespace Tr
open Go
theorem ZhG{w:World}{I i:Nat->Prop}{t:Ty}(m:∀(x y:El t) (c:List Value),Rd w I t x c->Rd w i t y c->x=y):∀(xs d:List (El t)) (css b:List (List Value)),Fa (Rd w I t) xs css->Fa (Rd w i t) d b->xs.length=d.length->css.flatten=b.flatten->xs=d
 |[],[],_,_,_,_,_,_=>rfl
 |[],_::_,_,_,_,_,h,_=>by simp at h
 |_::_,[],_,_,_,_,h,_=>by simp at h
 |x::xs,y::d,[],_,h,_,_,_=>by simp [Fa]at h
 |x::xs,y::d,_::_,[],_,h,_,_=>by simp [Fa]at h
 |x::xs,y::d,c::css,j::b,h,f,n,k=>by simp only[Fa]at h f;simp only[Vpa]at k;have e:c.length=j.length:=(Rd.length t x c h.1).trans (Rd.length t y j f.1).symm;obtain⟨rfl,p⟩:=Vz k e;rw[m x y c h.1 f.1,ZhG m xs d css b h.2 f.2 (by simpa using n) p]
theorem Zmb{w:World}{b off:Nat}{l m:List Value}(h:KB w b off l)(c:KB w b off m)(f:l.length=m.length):l=m:=by refine List.ext_getElem f λj d e=>?_;have:=(h j d).symm.trans (c j e);exact KO this
theorem Znq{w:World}{I j:Nat->Prop}{a b:Ty}(q:∀(x y:El a) (c:List Value),Rd w I a x c->Rd w j a y c->x=y)(r:∀(x y:El b) (c:List Value),Rd w I b x c->Rd w j b y c->x=y):
 ∀(x y:List (El a×El b)) (cs:List Value),XO w I (Rd w I a) (Rd w I b) x cs->XO w j (Rd w j a) (Rd w j b) y cs->x=y
 |[],[],_,_,_=>rfl
 |[],y::l,cs,h,d=>by
  simp only[XO]at h d;obtain⟨_,_,_,_,_,e,_⟩:=d
  rw[h]at e;simp at e
 |x::l,[],cs,h,d=>by
  simp only[XO]at h d;obtain⟨_,_,_,_,_,e,_⟩:=h
  rw[d]at e;simp at e
 |x::l,y::m,cs,h,d=>by simp only[XO]at h d;obtain⟨p,off,D,cl,G,e,_,R,K,L,M⟩:=h;obtain⟨Y,N,s,O,z,f,_,A,k,i,n⟩:=d;rw[e]at f;simp only[Xx,Vla.injEq,ZL,Addr.mk.injEq,and_true]at f;obtain⟨rfl,rfl⟩:=f;obtain⟨u,rfl⟩:=XO.length L;obtain⟨Z,rfl⟩:=XO.length i;have J:=(Rd.length a x.1 D K).trans (Rd.length a y.1 s k).symm;have Q:=(Rd.length b x.2 G M).trans (Rd.length b y.2 z n).symm;have S:=Zmb R A (by simp [J,Q]);obtain⟨rfl,C⟩:=Vz S J;obtain⟨U,rfl⟩:=Vz C (by simp);rw[<-U]at i;have V:=q x.1 y.1 D K k;have W:=r x.2 y.2 G M n;have X:=Znq q r l m _ L i;rw[X,show x=y from Vab V W]
theorem Rd.det{w:World}{I M:Nat->Prop}:∀(t:Ty) (x y:El t) (cs:List Value),Rd w I t x cs->Rd w M t y cs->x=y
 |.int _,x,y,cs,h,d=>by
  simp only[Rd]at h d;rw[h]at d;simp at d
  exact d
 |.bool,x,y,cs,h,d=>by
  simp only[Rd]at h d;rw[h]at d;simp at d
  exact d
 |.str,x,y,cs,h,d=>by
  simp only[Rd]at h d;rw[h]at d;simp at d
  exact d
 |.sl t,x,y,cs,h,d=>by
  simp only[Rd]at h d;obtain⟨a,cap,s,j,z,r,_⟩:=h;obtain⟨S,J,m,i,k,f,_⟩:=d;rw[j]at i;simp only[Xx,Vbb.injEq,and_true]at i;obtain⟨rfl,A,rfl⟩:=i;by_cases G:x=[]
  ·subst G
   cases y with
   |nil=>rfl
   |cons b l=>simp at A
  ·obtain⟨b,off,rfl,_,R⟩:=r G;obtain⟨N,L,K,_,D⟩:=f (λe=>G (by subst e;cases x with|nil=>rfl|cons _ _=>simp at A));simp only[ZL,Addr.mk.injEq,and_true]at K;obtain⟨rfl,rfl⟩:=K;refine ZhG (λx y c p q=>Rd.det t x y c p q) x y s m z k A (Zmb R D ?_)
   rw[Yt (Rd.all_length z),Yt (Rd.all_length k),<-z.length,<-k.length,A]
 |.unit,_,_,_,_,_=>rfl
 |.prod a b,x,y,cs,h,d=>by
  simp only[Rd]at h d;obtain⟨U,V,rfl,z,r⟩:=h;obtain⟨W,X,i,k,f⟩:=d;obtain⟨rfl,rfl⟩:=Vz i ((Rd.length a _ _ z).trans (Rd.length a _ _ k).symm)
  exact Vab (Rd.det a _ _ _ z k) (Rd.det b _ _ _ r f)
 |.arr n t,x,y,cs,h,d=>by
  simp only[Rd]at h d;obtain⟨j,s,rfl,r⟩:=h;obtain⟨i,m,k,f⟩:=d
  exact ZhG (λx y c p q=>Rd.det t x y c p q) x y s m r f (j.trans i.symm) k
 |.ref,_,_,_,h,_=>h.elim
 |.pt t,x,y,cs,h,d=>by
  simp only[Rd]at h d
  cases x with
  |none=>cases y with
   |none=>rfl
   |some y=>
    simp only[HD]at h d;obtain⟨_,_,_,j,_⟩:=d
    rw[h]at j;simp at j
  |some x=>cases y with
   |none=>
    simp only[HD]at h d;obtain⟨_,_,_,j,_⟩:=h
    rw[d]at j;simp at j
   |some y=>
    simp only[HD]at h d;obtain⟨b,c,e,j,_,r,C⟩:=h;obtain⟨N,O,Q,i,_,f,u⟩:=d;rw[j]at i;simp only[Xx,Vla.injEq,ZL,Addr.mk.injEq,and_true]at i;obtain rfl:=i;rw[r]at f;injection f with f;injection f with f;subst f
    exact congrArg Ua (Rd.det t x y _ C u)
 |.lk a b,x,y,cs,h,d=>by
  simp only[Rd]at h d
  exact Znq (λx y c p q=>Rd.det a x y c p q) (λx y c p q=>Rd.det b x y c p q) x y cs h d
 |.pn t,x,y,cs,h,d=>by
  simp only[Rd]at h d
  cases x with
  |none=>cases y with
   |none=>rfl
   |some y=>
    simp only[YK]at h d;obtain⟨_,_,j,_⟩:=d
    rw[h]at j;simp at j
  |some x=>cases y with
   |none=>
    simp only[YK]at h d;obtain⟨_,_,j,_⟩:=h
    rw[d]at j;simp at j
   |some y=>
    simp only[YK]at h d;obtain⟨c,e,j,_,r,C⟩:=h;obtain⟨O,Q,i,_,f,u⟩:=d;rw[j]at i;simp only[Xx,Vla.injEq,ZL,Addr.mk.injEq,and_true]at i;rw[<-i,r]at f;injection f with f;injection f with f;subst f;exact congrArg Ua (Vab i (Rd.det t x.2 y.2 _ C u))
end Tr
end
section
namespace Tr
open Go
noncomputable section
structure AS where
 F:Nat->AV
 H:AH
 nx:Nat
 fz:List Nat
def XK(F:Nat->AV)(n:Nat)(v:AV):Nat->AV:=λk=>bif Vd k n then v else F k
def Jb(F:Nat->AV)(d:Option Nat)(v:AV):Nat->AV:=match d with
 |some n=>XK F n v
 |none=>F
def Zcg:AV:=.tup .nil
def Zs(H:AH):KF->AH
 |[]=>H
 |p::l=>Zs (Z0 H p.1 p.2) l
inductive Ex where
 |normal
 |exit (id:Nat)
 |ret
 |jump (l:Nat)
def Ex.beq:Ex->Ex->Bool
 |.normal,.normal=>Uc
 |.exit a,.exit b=>Vd a b
 |.ret,.ret=>Uc
 |.jump a,.jump b=>Vd a b
 |_,_=>Ud
def Jq{σ τ:Type}(step:σ->Option (σ ⊕ τ)):Nat->σ->Option τ
 |0,_=>Ub
 |n+1,s=>match step s with
  |some (.inl b)=>Jq step n b
  |some (.inr r)=>Ua r
  |none=>Ub
open Classical in
noncomputable def run{σ τ:Type}(step:σ->Option (σ ⊕ τ))(s:σ):Option τ:=
 match Jq step 100000 s with
 |some r=>Ua r
 |none=>if h:∃r n,Jq step n s=Ua r then Ua h.choose else Ub
def HA{σ τ ρ:Type}(cnt:σ->Nat)(step:σ->Nat->Option (σ ⊕ τ))(k:τ->Option ρ)(z:ρ):Nat->σ->Prop
 |0,_=>False
 |n+1,s=>∀i,i<cnt s->(∃b,step s i=Ua (.inl b)/\HA cnt step k z n b)\/∃t,step s i=Ua (.inr t)/\k t=Ua z
def ZcS{σ τ ρ:Type}(cnt:σ->Nat)(step:σ->Nat->Option (σ ⊕ τ))(k:τ->Option ρ):Nat->σ->Option ρ
 |0,_=>Ub
 |n+1,s=>bif Vda (cnt s) 1 then(match step s 0 with
  |some (.inl b)=>ZcS cnt step k n b
  |some (.inr t)=>k t
  |none=>Ub) else Ub
open Classical in
noncomputable def drun{σ τ ρ:Type}(cnt:σ->Nat)(step:σ->Nat->Option (σ ⊕ τ))(k:τ->Option ρ)(s:σ):Option ρ:=
 match ZcS cnt step k 1000 s with
 |some r=>Ua r
 |none=>if h:∃z n,HA cnt step k z n s then Ua h.choose else Ub
structure Wo where
 i:Nat
 rd:List Nat
 wr:List Nat
def YW(E:Z9):Option Nat->Bool
 |some d=>Vk d E.nt&& !KT d E.ks
 |none=>Uc
def YP(E:Z9)(ops:Array Oper)(base:Nat)(fz:List Nat)(ρ:Type):List (Oper×Nat)->(Nat->AV)->AH->List Wo->((Nat->AV)->AH->List Wo->Option ρ)->Option ρ
 |[],F,H,c,k=>k F H c
 |(o,i)::rest,F,H,c,k=>
  let go:=λ(F:Nat->AV)=>bif YW E o.dst then
   (Je E (base+i*E.stp) o.op o.type (Zz F)).runK H [] λr rd=>
     bif J7 (r.2.map Vg) fz then
      YP E ops base fz ρ rest (Jb F o.dst r.1) (Zs H r.2) (⟨i,rd,r.2.map Vg⟩::c) k else Ub else Ub
  let skip:=λ(F:Nat->AV)=>bif YW E o.dst then YP E ops base fz ρ rest (Jb F o.dst Zcg) H c k else Ub
  match o.guard with
  |none=>go F
  |some (j,want)=>match (ops[j]?).bind (·.dst) with
   |none=>Ub
   |some g=>match F g with
    |.d .bool b=>bif b then(bif want then go (XK F g (.d .bool Uc)) else skip (XK F g (.d .bool Uc)))
      else(bif want then skip (XK F g (.d .bool Ud)) else go (XK F g (.d .bool Ud)))
    |.tup .nil=>skip F
    |_=>Ub
def Za2:List Operand->List Nat
 |[]=>[]
 |.tmp t::l=>t::Za2 l
 |_::l=>Za2 l
def Di(ops:Array Oper)(o:Oper):List Nat:=
 (match o.guard with
   |some (j,_)=>((ops[j]?).bind (·.dst)).toList
   |none=>[])++Za2 o.op.operands.toList
def ZfO(ops:Array Oper)(a b:Oper):Bool:=
 (match a.dst with
   |some d=> !KT d (Di ops b)&&(match b.dst with|some e=> !Vd d e|none=>Uc)
   |none=>Uc)&&
 (match b.dst with
   |some d=> !KT d (Di ops a)
   |none=>Uc)
def YA(i:Nat):List Wo->Option Wo
 |[]=>Ub
 |t::l=>bif Vd t.i i then Ua t else YA i l
def Zov(c:List Wo)(i j:Nat):Bool:=
 match YA i c,YA j c with
 |some a,Ua b=>J7 a.wr b.rd&&J7 a.wr b.wr&&J7 b.wr a.rd
 |_,_=>Uc
def Zf5(ops:Array Oper):List (Nat×Nat):=
 let b:=Region.before ops
 (Vt ops.size).flatMap λj=>(Vt j).filterMap λi=>if (b.getD j 0).testBit i then Ub else Ua (i,j)
def ZwA(ops:Array Oper):Bool:=(Zf5 ops).all λp=>match ops[p.1]?,ops[p.2]? with
 |some a,Ua b=>ZfO ops a b
 |_,_=>Uc
def Zhy(ops:Array Oper):Bool:=ops.toList.zipIdx.all λp=>p.1.after.all λe=> !Region.binds .any e||Vk e.on p.2
def ZbA(ops:Array Oper)(b:List Wo):Bool:=
 Zhy ops&&ZwA ops&&(b.all (λt=>t.wr.isEmpty) || (Zf5 ops).all λp=>Zov b p.1 p.2)
@[reducible] def ElT:List (Nat×Ty)->Type
  |[]=>Unit
  |[(_,t)]=>El t
  |(_,t)::p::l=>El t×ElT (p::l)
def ZbX(F:Nat->AV):(l:List (Nat×Ty))->Option (ElT l)
 |[]=>Ua ()
 |[(n,t)]=>(match F n with
  |.d b x=>Kz b t x
  |_=>Ub)
 |(n,t)::p::l=>(match F n with
  |.d b x=>(Kz b t x).bind λy=>(ZbX F (p::l)).bind λz=>Ua (y,z)
  |_=>Ub)
def inT(F:Nat->AV):(l:List (Nat×Ty))->ElT l->Nat->AV
 |[],_=>F
 |[(n,t)],x=>XK F n (.d t x)
 |(n,t)::p::l,x=>inT (XK F n (.d t x.1)) (p::l) x.2
def Zh2(l:List Nat)(F:Nat->AV):Nat->AV:=λk=>bif KT k l then .junk else F k
def ZeN(ops:List Oper):List Nat:=ops.filterMap (·.dst)
def ZiI(E:Z9)(ops:Array Oper)(draw:Bool)(outs:Option (List (Nat×Ty)))(ρ:Type)(s:AS)(k:AS->Option ρ):Option ρ:=
 let nx:=s.nx+ops.size*E.stp
 match outs with
 |none=>YP E ops s.nx s.fz ρ ops.toList.zipIdx s.F s.H [] λF H b=>bif !draw||ZbA ops b then k ⟨F,H,nx,s.fz⟩ else Ub
 |some l=>(YP E ops s.nx s.fz (ElT l) ops.toList.zipIdx s.F s.H [] λF _ b=>bif (!draw||ZbA ops b)&&b.all (λt=>t.wr.isEmpty) then ZbX F l else Ub).bind
   λx=>k ⟨inT (Zh2 (ZeN ops.toList) s.F) l x,s.H,nx,s.fz⟩
structure WZ where
 roots:List (Nat×Pat)
 fns:List (Nat×FuncId×List Nat):=[]
 kept:List Nat:=[]
 als:List (Nat×Nat):=[]
 kf:List (Nat×Nat×Nat):=[]
 kv:List Nat:=[]
@[reducible] def Jn:List (Nat×Pat)->Type
  |[]=>Unit
  |[(_,p)]=>K6 p
  |(_,p)::q::l=>K6 p×Jn (q::l)
def ZcW(F:Nat->AV):(l:List (Nat×Pat))->Zy (Jn l×ZE)
 |[]=>.ret ((),ZE.none)
 |[(n,p)]=>ext p (F n)
 |(n,p)::q::l=>(ext p (F n)).bind λx=>(ZcW F (q::l)).bind λy=>.ret ((x.1,y.1),x.2.app y.2)
def WL:(l:List (Nat×Pat))->Jn l->Nat->List (Nat×AV)×List (Nat×K5)×Nat
 |[],_,n=>([],[],n)
 |[(m,p)],x,n=>let r:=inj p x n;([(m,r.1)],r.2.1,r.2.2)
 |(m,p)::q::l,x,n=>let r:=inj p x.1 n;let s:=WL (q::l) x.2 r.2.2;((m,r.1)::s.1,r.2.1++s.2.1,s.2.2)
def RY:List (Nat×AV)->Nat->AV
 |[],_=>.junk
 |p::l,k=>bif Vd k p.1 then p.2 else RY l k
def WM:List (Nat×K5)->AH
 |[],_=>Ub
 |p::l,k=>bif Vd k p.1 then Ua p.2 else WM l k
def AV.box? :AV->Option Nat
 |.ptr id []=>Ua id
 |_=>Ub
def D6(F:Nat->AV):Zo->List Nat->Bool
 |.nil,[]=>Uc
 |.cons v l,n::m=>(match v.box?,(F n).box? with
  |some a,Ua b=>Vd a b
  |_,_=>Ud)&&D6 F l m
 |_,_=>Ud
def Zc3(F:Nat->AV):List (Nat×FuncId×List Nat)->Bool
 |[]=>Uc
 |(n,f,l)::m=>(match F n with
  |.fn c b=>Vd c f&&D6 F b l
  |_=>Ud)&&Zc3 F m
def ZgF(F:Nat->AV):List (Nat×FuncId×List Nat)->Nat->AV
 |[]=>F
 |(n,f,l)::m=>XK (ZgF F m) n (.fn f (Zo.ofList (l.map F)))
def ZgK(x y:AV):Bool:=match x,y with
 |.vw a,.vw b=>Vd a b
 |.mp a,.mp b=>Vd a b
 |.ptr a [],.ptr b []=>Vd a b
 |.nils,.nils=>Uc
 |_,_=>Ud
def ZcB(F:Nat->AV):List (Nat×Nat)->Bool
 |[]=>Uc
 |p::l=>ZgK (F p.1) (F p.2)&&ZcB F l
def ZgE(F:Nat->AV):List (Nat×Nat)->Nat->AV
 |[]=>F
 |p::l=>XK (ZgE F l) p.1 (F p.2)
def AV.boxes:Zo->List Nat
 |.nil=>[]
 |.cons v l=>v.box?.toList++AV.boxes l
def Zo.ls:Zo->List AV
 |.nil=>[]
 |.cons v l=>v::l.ls
def Ra(H:AH):Nat->AV->List Nat
 |0,_=>[]
 |n+1,v=>match v with
  |.ptr id []=>id::(match H id with
   |some (.var _ c)=>Ra H n c
   |_=>[])
  |.vw id=>[id]
  |.nw id _ _ _=>[id]
  |.mp id=>[id]
  |.agg l=>l.ls.flatMap (Ra H n)
  |_=>[]
def G0(s:AS):List Nat->List Nat
 |[]=>[]
 |n::l=>(match s.F n with
  |.fn _ b=>AV.boxes b
  |v=>Ra s.H 8 v)++G0 s l
def XG(H:AH)(id:Nat):Bool:=match H id with
 |some (.var _ _)=>Uc
 |some (.vec _ _)=>Uc
 |some (.map _ _ _)=>Uc
 |some (.rows _ _ _ Ub)=>Uc
 |some (.mrows _ _ _ _ Ub)=>Uc
 |some (.rng _ _ _ _)=>Uc
 |some (.dat _ _)=>Uc
 |some (.vco _ _)=>Uc
 |_=>Ud
def Zei(H:AH):Zo->Bool
 |.nil=>Uc
 |.cons v l=>(match v with
  |.ptr id []=>XG H id
  |.dp _ _=>Uc
  |.d _ _=>Uc
  |_=>Ud)&&Zei H l
def Gy(s:AS):List Nat->Bool
 |[]=>Uc
 |n::l=>(match s.F n with
  |.d _ _=>Uc
  |.dp _ _=>Uc
  |.nilr _=>Uc
  |.nils=>Uc
  |.ptr id []=>(Ra s.H 8 (.ptr id [])).all (XG s.H)
  |.vw id=>XG s.H id
  |.nw id _ _ _=>XG s.H id
  |.mp id=>XG s.H id
  |.fn _ b=>Zei s.H b
  |_=>Ud)&&Gy s l
def Z6(b:AS)(e:WZ):List Nat:=G0 b e.kept++b.fz
def Wv(E:Z9)(e:WZ):Z9:={E with ks:=e.kept++(e.kv++E.ks)}
def Ziy(fz:List Nat)(e:WZ)(s:AS):Option (Jn e.roots):=
 (ZcW s.F e.roots).runK s.H [] λr _=>bif r.2.ok fz&&J7 r.2.br fz&&Zc3 s.F e.fns&&ZcB s.F e.als then Ua r.1 else Ub
def ZbM(b:AS)(fz:List Nat)(e:WZ)(x:Jn e.roots):AS:=
 let r:=WL e.roots x b.nx
 ⟨ZgE (ZgF (λk=>bif KT k e.kept then b.F k else RY r.1 k) e.fns) e.als,λid=>bif KT id (Z6 b e) then b.H id else WM r.2.1 id,r.2.2,fz⟩
def HQ(s:AS)(k:Nat×Nat×Nat):Option Nat:=match s.F k.1 with
 |.ptr id []=>(match s.H id with
  |some (.var T (.agg c))=>(match c.nth k.2.1 with
   |some (.vw a)=>bif Vd (R0 T k.2.1) k.2.2 then Ua a else Ub
   |_=>Ub)
  |_=>Ub)
 |_=>Ub
def Zdc(b s:AS):List (Nat×Nat×Nat)->Bool
 |[]=>Uc
 |k::l=>(match HQ b k,HQ s k with
  |some x,Ua y=>Vd x y
  |_,_=>Ud)&&Zdc b s l
def R2(b:AS)(fz:List Nat)(k:Nat×Nat×Nat)(s:AS):AS:=match HQ b k,HQ s k,s.F k.1 with
 |some a,Ua d,.ptr id []=>(match s.H id,s.H d,b.H a with
  |some (.var T (.agg c)),Ua (.vec t xs),Ua (.vec e _)=>bif e==t&& !Vd d id&& !Vd a id&& !KT a fz&& !KT d fz&& !KT id fz then
    {s with H:=Z0 (Z0 (Z0 (Z0 s.H d Ub) id Ub) a (Ua (.vec t xs))) id (Ua (.var T (.agg (c.putNth k.2.1 (.vw a)))))} else s
  |_,_,_=>s)
 |_,_,_=>s
def R3(b:AS)(fz:List Nat):List (Nat×Nat×Nat)->AS->AS
 |[],s=>s
 |k::l,s=>R3 b fz l (R2 b fz k s)
def ZgG(b:AS):List Nat->(Nat->AV)->Nat->AV
 |[],F=>F
 |n::l,F=>ZgG b l (XK F n (b.F n))
def XY(b:AS)(fz:List Nat)(e:WZ)(s:AS):Option (Jn e.roots):=bif Zdc b s e.kf then Ziy fz e s else Ub
def Xn(b:AS)(fz:List Nat)(e:WZ)(x:Jn e.roots):AS:=
 let s:=R3 b (Z6 b e) e.kf (ZbM b fz e x)
 ⟨ZgG b e.kv s.F,s.H,s.nx,fz⟩
abbrev Gf:=List (Ex×WZ)
@[reducible] def YH:Gf->Type
  |[]=>Empty
  |[e]=>Jn e.2.roots
  |e::f::l=>Jn e.2.roots ⊕ YH (f::l)
def Yy(b:AS)(fz:List Nat):(J:Gf)->Ex->AS->Option (YH J)
 |[],_,_=>Ub
 |[e],x,s=>bif x.beq e.1 then XY b fz e.2 s else Ub
 |e::f::l,x,s=>bif x.beq e.1 then(XY b fz e.2 s).bind λy=>Ua (.inl y) else(Yy b fz (f::l) x s).bind λy=>Ua (.inr y)
def Rr{ρ:Type}(b:AS):(J:Gf)->YH J->(Ex->AS->Option ρ)->Option ρ
 |[],_,_=>Ub
 |[e],y,k=>k e.1 (Xn b b.fz e.2 y)
 |e::f::l,y,k=>match y with
  |.inl y=>k e.1 (Xn b b.fz e.2 y)
  |.inr y=>Rr b (f::l) y k
def WZ.slots(e:WZ):List Nat:=e.roots.map Vg++e.fns.map Vg++e.kept
def Gx(e:WZ):Gf->Bool
 |[]=>Uc
 |f::l=>f.2.kept.all (λn=>KT n e.kept)&&f.2.kv.all (λn=>KT n e.kv)&&GD f.2.slots&&Gx e l
inductive K7 where
 |leaf
 |seq (a b:K7)
 |cnd (J:Option (WZ×Gf)) (a b:K7)
 |lp (e:WZ) (J:Gf) (h:K7)
 |lpd (it:Nat) (e:WZ) (J:Gf) (h:K7)
 |reg (outs:List (Nat×Ty))
 |all (n:Nat)
 |det (n:Nat) (a b:K7)
def K7.l:K7->K7
 |.seq a _=>a
 |.det _ a _=>a
 |.cnd _ a _=>a
 |.all n=>.all n
 |_=>.leaf
def K7.r:K7->K7
 |.seq _ b=>b
 |.det _ _ b=>b
 |.cnd _ _ b=>b
 |.all n=>.all n
 |_=>.leaf
def K7.dt:K7->Option Nat
 |.det n _ _=>Ua n
 |_=>Ub
def Zhn(n:Nat){ρ:Type}(s:AS)(go:AS->Option ρ):Option ρ:=match s.F n with
 |.nw id ver b k=>bif KT id s.fz then Ub else(Yo id ver b k).runK s.H [] λr _=>(Zd5 id s.nx b k).runK s.H [] λo _=>
   go ⟨XK s.F n (.vw s.nx),Z0 (Z0 s.H id (Ua o)) s.nx (Ua (.vec r.1 r.2)),s.nx+1,s.fz⟩
 |_=>Ub
def Zho(h:K7){ρ:Type}(s:AS)(go:AS->Option ρ):Option ρ:=match h.dt with
 |none=>go s
 |some n=>Zhn n s go
def K7.join:K7->Option (WZ×Gf)
 |.cnd J _ _=>J
 |_=>Ub
def K7.outs:K7->Option (List (Nat×Ty))
 |.reg l=>Ua l
 |_=>Ub
def Rj(it:Nat)(s:AS):Nat:=match s.F it with
 |.ptr id []=>(match s.H id with
  |some (.rng _ _ rest _)=>bif rest.isEmpty then 1 else rest.length
  |_=>1)
 |_=>1
def ZaO(E:Z9)(ops:Array Oper)(it i:Nat)(ρ:Type)(s:AS)(k:AS->Option ρ):Option ρ:=
 match ops.toList.zipIdx with
 |[]=>Ub
 |(o,_)::l=>(match o.op,o.guard,o.dst with
  |.next (.tmp b) Ud,Ub,Ua d=>bif Vd b it&&YW E (Ua d) then(match s.F it with
   |.ptr id []=>(match s.H id with
    |some (.rng c f rest _)=>bif KT id s.fz then Ub else
      bif rest.isEmpty then YP E ops s.nx s.fz ρ l (Jb s.F (Ua d) (.tup (.cons (.d .bool Ud) .nil))) s.H [] λF H _=>k ⟨F,H,s.nx+ops.size*E.stp,s.fz⟩
      else(rest[i]?).bind λe=>YP E ops s.nx s.fz ρ l (Jb s.F (Ua d) (.tup (.cons (.d .bool Uc) (.cons (.d c e.1) (.cons (.d f e.2) .nil)))))
       (Z0 s.H id (Ua (.rng c f (rest.eraseIdx i) (Ua e)))) [] λF H _=>k ⟨F,H,s.nx+ops.size*E.stp,s.fz⟩
    |_=>Ub)
   |_=>Ub) else Ub
  |_,_,_=>Ub)
def Zf6{ρ:Type}(f:AS->(Ex->AS->Option ρ)->Option ρ)(k:Ex->AS->Option ρ):Nat->AS->Option ρ
 |0,_=>Ub
 |n+1,s=>f s λe b=>match e with
  |.normal=>Zf6 f k n b
  |e=>k e b
noncomputable def Ko:Code->K7->Z9->(ρ:Type)->AS->(Ex->AS->Option ρ)->Option ρ
 |.skip,_,_,_,s,k=>k .normal s
 |.label _,_,_,_,s,k=>k .normal s
 |.scope c,h,E,ρ,s,k=>Ko c h E ρ s λe f=>match e with
  |.jump _=>Ub
  |e=>k e f
 |.goto l,_,_,_,s,k=>k (.jump l) s
 |.region _ ops draw,h,E,ρ,s,k=>ZiI E ops draw h.outs ρ s (k .normal)
 |.seq a b,h,E,ρ,s,k=>Zho h s λs=>Ko a h.l E ρ s λe f=>match e with
  |.normal=>Ko b h.r E ρ f k
  |e=>k e f
 |.cond c a b,h,E,ρ,s,k=>match Zz s.F c with
  |.d .bool t=>(match h.join with
   |none=>bif t then Ko a h.l E ρ s k else Ko b h.r E ρ s k
   |some (e,J)=>bif Gy s e.kept&&Gx e J then
     (let j:AS:={s with fz:=Z6 s e}
      bif t then Ko a h.l (Wv E e) (YH J) j (Yy s (Z6 s e) J) else Ko b h.r (Wv E e) (YH J) j (Yy s (Z6 s e) J)).bind λo=>Rr s J o k
    else Ub)
  |_=>Ub
 |.block id c,h,E,ρ,s,k=>Ko c h E ρ s λe f=>match e with
  |.exit i=>bif Vd i id then k .normal f else k (.exit i) f
  |e=>k e f
 |.loop c,h,E,ρ,s,k=>match h with
  |.all n=>Zf6 (λs k=>Ko c (.all n) E ρ s k) k n s
  |.lp en J m=>bif Gy s en.kept&&Gx en J&&GD en.slots then
    (XY s (Z6 s en) en s).bind λx=>(run (λy=>Ko c m (Wv E en) (Jn en.roots ⊕ YH J) (Xn s (Z6 s en) en y) λe f=>match e with
      |.normal=>(XY s (Z6 s en) en f).bind λz=>Ua (.inl z)
      |e=>(Yy s (Z6 s en) J e f).bind λz=>Ua (.inr z)) x).bind λo=>Rr s J o k
   else Ub
  |.lpd it en J m=>(match c with
   |.seq (.region _ ops Ud) p=>bif Gy s en.kept&&Gx en J&&GD en.slots then
     (XY s (Z6 s en) en s).bind λx=>drun (λy=>Rj it (Xn s (Z6 s en) en y)) (λy i=>ZaO (Wv E en) ops it i (Jn en.roots ⊕ YH J) (Xn s (Z6 s en) en y) λj=>Ko p m (Wv E en) (Jn en.roots ⊕ YH J) j λe f=>match e with
       |.normal=>(XY s (Z6 s en) en f).bind λz=>Ua (.inl z)
       |e=>(Yy s (Z6 s en) J e f).bind λz=>Ua (.inr z)) (λo=>Rr s J o k) x
    else Ub
   |_=>Ub)
  |_=>Ub
 |.exit id,_,_,_,s,k=>k (.exit id) s
 |.ret,_,_,_,s,k=>k .ret s
 |_,_,_,_,_,_=>Ub
def Zo.toF:Zo->Nat->AV
 |.nil,_=>Zcg
 |.cons v _,0=>v
 |.cons _ l,n+1=>l.toF n
mutual
def Pat.back:Pat->Bool
 |.own _ k=>k
 |.var _ _=>Uc
 |.map _ _=>Uc
 |.rows _ k=>k
 |.mrows _ _=>Uc
 |.fnd _ _ _ _=>Uc
 |.agg l=>l.back
 |.fn _ l=>l.back
 |_=>Ud
def Pats.back:Pats->Bool
 |.nil=>Ud
 |.cons p l=>p.back||l.back
end
mutual
def Zhz:(p:Pat)->K6 p
 |.pd t=>zeroEl t
 |.own _ _=>[]
 |.var _ p=>Zhz p
 |.ro t=>zeroEl t
 |.map _ _=>[]
 |.rows _ _=>[]
 |.mrows _ _=>[]
 |.it _ _=>[]
 |.fnd tn tq lt _=>(zeroEl tn,zeroEl tq,zeroEl lt,[],[],[])
 |.owo _=>[]
 |.agg l=>ZhA l
 |.fn _ l=>ZhA l
 |.nilr=>()
 |.nils=>()
 |.any=>()
def ZhA:(l:Pats)->Kw l
 |.nil=>()
 |.cons p l=>(Zhz p,ZhA l)
end
mutual
def outDef:(p:Pat)->Gi p
 |.own _ true=>[]
 |.own _ false=>()
 |.var _ p=>Zhz p
 |.map _ _=>[]
 |.rows _ true=>[]
 |.rows _ false=>()
 |.mrows _ _=>[]
 |.it _ _=>()
 |.fnd tn tq lt _=>(zeroEl tn,zeroEl tq,zeroEl lt,[],[],[])
 |.owo _=>()
 |.agg l=>Ziw l
 |.fn _ l=>Ziw l
 |.pd _=>()
 |.ro _=>()
 |.nilr=>()
 |.nils=>()
 |.any=>()
def Ziw:(l:Pats)->Wi l
 |.nil=>()
 |.cons p l=>(outDef p,Ziw l)
end
def ZgY:Pat->AV->Bool
 |.pd t,v=>v.fits t
 |.own t _,v=>v.fits (.sl t)
 |.rows t _,v=>v.fits (.sl (.sl t))
 |.owo b,v=>v.fits (.sl (.pn b))
 |.agg _,_=>Uc
 |.fn _ _,_=>Uc
 |.any,_=>Ud
 |.nils,v=>v.fits (.sl .unit)
 |_,v=>v.fits .ref
mutual
def JR:(p:Pat)->AV->Zy (Gi p×ZE)
 |.own t Uc,.vw id=>.getH id fun
  |some (.vec b xs)=>.opt (Kz (.sl b) (.sl t) xs) λy=>.ret (y,⟨[id],[]⟩)
  |_=>.fail
 |.own _ Ud,_=>.ret ((),ZE.none)
 |.var t p,.ptr id []=>.getH id fun
  |some (.var b c)=>bif b==t&&p.fits t then(ext p c).bind λr=>.ret (r.1,⟨id::r.2.tk,r.2.br⟩) else .fail
  |_=>.fail
 |.map d i,.mp id=>.getH id fun
  |some (.map k e m)=>.opt (Kz (.sl (.prod k e)) (.sl (.prod d i)) m) λy=>.ret (y,⟨[id],[]⟩)
  |_=>.fail
 |.rows t Uc,.vw id=>.getH id fun
  |some (.rows b xs _ Ub)=>.opt (Kz (.sl (.sl b)) (.sl (.sl t)) xs) λy=>.ret (y,⟨[id],[]⟩)
  |_=>.fail
 |.rows _ Ud,_=>.ret ((),ZE.none)
 |.mrows d t,.mp id=>.getH id fun
  |some (.mrows k b m _ Ub)=>.opt (Kz (.sl (.prod k (.sl b))) (.sl (.prod d (.sl t))) m) λy=>.ret (y,⟨[id],[]⟩)
  |_=>.fail
 |.it _ _,_=>.ret ((),ZE.none)
 |.fnd tn tq lt lb,.ptr id []=>ext (.fnd tn tq lt lb) (.ptr id [])
 |.agg l,.agg vs=>ZaR l vs
 |.fn f l,.fn h vs=>bif Vd h f then ZaR l vs else .fail
 |.owo _,_=>.ret ((),ZE.none)
 |.pd _,_=>.ret ((),ZE.none)
 |.ro _,_=>.ret ((),ZE.none)
 |.nilr,_=>.ret ((),ZE.none)
 |.nils,_=>.ret ((),ZE.none)
 |.any,_=>.ret ((),ZE.none)
 |_,_=>.fail
def ZaR:(l:Pats)->Zo->Zy (Wi l×ZE)
 |.nil,.nil=>.ret ((),ZE.none)
 |.cons p l,.cons v vs=>bif ZgY p v then(JR p v).bind λx=>(ZaR l vs).bind λy=>.ret ((x.1,y.1),x.2.app y.2) else .fail
 |_,_=>.fail
end
def ZbY:(l:Pats)->Zo->Zy (Wi l×ZE)
 |.nil,_=>.ret ((),ZE.none)
 |.cons p l,.cons v vs=>bif p.back then(JR p v).bind λx=>(ZbY l vs).bind λy=>.ret ((x.1,y.1),x.2.app y.2)
   else(ZbY l vs).bind λy=>.ret ((outDef p,y.1),y.2)
 |_,_=>.fail
def ZaU(E:Z9)(s:AS):List ResultVar->Zy Zo
 |[]=>.ret .nil
 |.tmp t::l=>(ZaU E s l).bind λvs=>.ret (.cons (s.F t) vs)
 |.cell a T::l=>.opt (E.ty T) λt=>(match s.F a with
  |.ptr id p=>.getH id fun
   |some (.var _ c)=>(GX c p).bind λv=>bif v.fits t&&v.solid then(ZaU E s l).bind λvs=>.ret (.cons v vs) else .fail
   |_=>.fail
  |_=>.fail)
def XR:Pats->Nat->List Nat
 |.nil,_=>[]
 |.cons p l,n=>(bif p.back then [n] else [])++XR l (n+1)
def Pats.len:Pats->Nat
 |.nil=>0
 |.cons _ l=>l.len+1
def ZdD(F:Nat->AV):Pats->Nat->Zo
 |.nil,_=>.nil
 |.cons _ l,n=>.cons (F n) (ZdD F l (n+1))
def Ys(E:Z9)(results:Array ResultVar)(args res:Pats)(fz:List Nat)(e:Ex)(s:AS):Option (Wi args×Kw res):=
 match e with
 |.exit _=>Ub
 |.jump _=>Ub
 |_=>((ZaU E s results.toList).bind λvs=>(WK res vs).bind λr=>(ZbY args (ZdD s.F args 0)).bind λo=>.ret ((o.1,r.1),o.2.app r.2)).runK s.H [] λr _=>
   bif r.2.ok fz&&J7 r.2.br fz then Ua r.1 else Ub
def G1(ks:List Nat)(f:Zo)(e:AH)(s:AS):List (Nat×Nat×Nat)->Bool
 |[]=>Uc
 |k::l=>(match f.nth k.1,s.F k.1 with
  |some (.ptr id []),.ptr d []=>(match e id,s.H d with
   |some (.var T (.agg c)),Ua (.var h (.agg i))=>(match c.nth k.2.1,i.nth k.2.1 with
    |some (.vw a),Ua (.vw b)=>Vd a b&&h==T&&Vd (R0 T k.2.1) k.2.2&&KT k.1 ks
    |_,_=>Ud)
   |_,_=>Ud)
  |_,_=>Ud)&&G1 ks f e s l
noncomputable def XV(E:Z9)(body:Code)(results:Array ResultVar)(h:K7)(args res:Pats){α:Type}(pack:Wi args×Kw res->α)(x:Kw args)(kp:List (Nat×Nat×Nat):=[]):Option α:=
 let r:=Kb args x 0
 Ko body h {E with ks:=XR args 0} α ⟨r.1.toF,WM r.2.1,r.2.2,[]⟩ λe s=>
  (Ys E results args res [] e s).bind λy=>bif G1 (XR args 0) r.1 (WM r.2.1) s kp then Ua (pack y) else Ub
def mkE(b:List (Nat×Ty))(ms:List (Nat×Ty×Ty))(pks:List (Nat×Nat))(rws zxs:List Nat)(m:List (Nat×List Spec))(nt:Nat)(bds:List (Nat×Nat):=[]):Z9:=
 {ty:=λn=>b.lookup n,mty:=λn=>ms.lookup n,pk:=λn=>(pks.lookup n).getD 0,rw:=λn=>rws.contains n,zx:=λn=>zxs.contains n,bd:=λn=>bds.lookup n,specs:=λn=>(m.lookup n).getD [],nt:=nt,ks:=[] }
def K2(f:Func):Code:=match f.body with
 |some b=>b
 |none=>.skip
end
end Tr
end
section
namespace Tr
open Go
def G5(agg:Bool)(cs:List Value):Value:=if agg then .agg cs.toArray else cs.headD undef
theorem Rd.oneCell{w:World}{I:Nat->Prop}:∀(t:Ty) (x:El t) (cs:List Value),Rd w I t x cs->∀v∈cs,v.oneCell' =Uc
 |.int _,_,_,h=>by rw[h];simp [Vc]
 |.bool,_,_,h=>by rw[h];simp [Vc]
 |.str,_,_,h=>by rw[h];simp [Vc]
 |.sl t,x,cs,h=>by
  obtain⟨a,cap,f,e,_⟩:=h
  rw[e];simp [Vc]
 |.unit,_,_,h=>by rw[h];simp
 |.prod a b,x,cs,h=>by
  obtain⟨q,r,e,i,j⟩:=h;rw[e];intro v d;rcases Vja.1 d with d|d
  ·exact Rd.oneCell a _ _ i v d
  ·exact Rd.oneCell b _ _ j v d
 |.arr n t,x,cs,h=>by
  obtain⟨e,f,i,j⟩:=h;rw[i];intro v d;obtain⟨c,k,d⟩:=List.mem_flatten.1 d
  exact j.all_right (λy c m=>Rd.oneCell t y c m) c k v d
 |.ref,_,_,h=>h.elim
 |.pt t,x,cs,h=>by obtain⟨a,rfl⟩:=HD.length h;simp [Vc]
 |.lk a b,x,cs,h=>by obtain⟨p,rfl⟩:=XO.length h;simp [Vc]
 |.pn t,x,cs,h=>by obtain⟨a,rfl⟩:=YK.length h;simp [Vc]
mutual
theorem CV.oneCell{w:World}{g:Gh}:∀(a:AV) (cs:List Value),a≠ .junk->CV w g a cs->(∀t,a.fits t=Uc->∀v∈cs,v.oneCell' =Uc)
 |.d t x,cs,_,h,_,_=>Rd.oneCell t x cs (by simpa only[CV] using h)
 |.junk,_,h,_,_,_=>absurd rfl h
 |.tup _,_,_,h,_,_=>by simp [CV]at h
 |.agg l,cs,_,h,t,r=>Kg.oneCell l cs (by simpa only[CV] using h) t (by simpa only[AV.fits] using r)
 |.dp t x,cs,_,h,_,_=>by simp only[CV]at h;obtain⟨b,off,c,e,_⟩:=h;rw[e];simp [Vc]
 |.ptr id p,cs,_,h,_,_=>by simp only[CV]at h;obtain⟨_,o,t,b,_,_,j⟩:=h;rw[j];simp [Vc]
 |.vw id,cs,_,h,t,r=>by simp only[CV]at h;rw[h.2.1];intro v q;simp at q;rw[q];exact h.2.2
 |.vs id G n,cs,_,h,_,_=>by
  simp only[CV]at h
  rcases h.2 with ⟨_,_,_,h⟩|⟨b,len,cap,m,_,_,_,_,h⟩<;>rw[h]<;>simp [Vc]
 |.vp id i p,cs,_,h,_,_=>by simp only[CV]at h;obtain⟨_,o,t,b,_,_,j⟩:=h;rw[j];simp [Vc]
 |.op id i,cs,_,h,_,_=>by simp only[CV]at h;obtain⟨_,b,off,len,cap,_,j⟩:=h;rw[j];simp [Vc]
 |.mp id,cs,_,h,_,_=>by simp only[CV]at h;obtain⟨_,b,_,j⟩:=h;rw[j];simp [Vc]
 |.fn f l,cs,_,h,_,_=>by simp only[CV]at h;obtain⟨D,e,_⟩:=h;rw[e];simp [Ztg]
 |.nilr p,cs,_,h,_,_=>by
  have h:=ZbT h;rcases h with h|h|h<;>rw[h]<;>simp [Vc]
 |.nils,cs,_,h,_,_=>by simp only[CV]at h;rw[h];simp [Vc]
 |.jk n,cs,_,h,_,_=>by simp only[CV]at h;exact h.2
 |.nw id ver C k,cs,_,h,_,_=>by simp only[CV]at h;obtain⟨_,_,v,e,s,_⟩:=h;rw[e];intro u y;simp at y;rw[y];exact s
 |.np id ver C k i p,cs,_,h,_,_=>by simp only[CV]at h;obtain⟨_,_,a,e,_⟩:=h;rw[e];simp [Vc]
theorem Kg.oneCell{w:World}{g:Gh}:∀(l:Zo) (cs:List Value),Kg w g l cs->(∀t,l.fits t=Uc->∀v∈cs,v.oneCell' =Uc)
 |.nil,cs,h,_,_=>by simp only[Kg]at h;rw[h];simp
 |.cons a l,cs,h,t,r=>by
  simp only[Kg]at h;obtain⟨z,A,e,s,j⟩:=h;cases t<;>simp only[Zo.fits,Va,Vq]at r
  rw[e];intro v q;rcases Vja.1 q with q|q
  ·refine CV.oneCell a z ?_ s _ r.1 v q;rintro rfl;simp [AV.fits]at r
  ·exact Kg.oneCell l A j _ r.2 v q
end
mutual
theorem CV.length{w:World}{g:Gh}:∀(a:AV) (t:Ty) (cs:List Value),a.fits t=Uc->CV w g a cs->cs.length=t.size
 |.d k x,t,cs,b,h=>by
  simp only[AV.fits,Ki]at b;subst b
  exact Rd.length _ _ _ (by simpa only[CV] using h)
 |.junk,_,_,b,_=>by simp [AV.fits]at b
 |.tup _,_,_,b,_=>by simp [AV.fits]at b
 |.agg l,t,cs,b,h=>Kg.length l t cs (by simpa only[AV.fits] using b) (by simpa only[CV] using h)
 |.jk n,t,cs,b,h=>by
  simp only[AV.fits,Ki]at b
  simp only[CV]at h;rw[h.1,b]
 |.dp _ _,t,cs,b,h=>by
  cases t<;>simp [AV.fits]at b
  all_goals (simp only[CV]at h;obtain⟨_,_,_,c,_⟩:=h;rw[c];rfl)
 |.ptr _ _,t,cs,b,h=>by
  cases t<;>simp [AV.fits]at b
  all_goals (simp only[CV]at h;obtain⟨_,_,_,_,_,_,c⟩:=h;rw[c];rfl)
 |.vp _ _ _,t,cs,b,h=>by
  cases t<;>simp [AV.fits]at b
  simp only[CV]at h;obtain⟨_,_,_,_,_,_,c⟩:=h;rw[c];rfl
 |.op _ _,t,cs,b,h=>by simp [AV.fits]at b
 |.mp _,t,cs,b,h=>by
  cases t<;>simp [AV.fits]at b
  simp only[CV]at h;obtain⟨_,_,_,c⟩:=h;rw[c];rfl
 |.fn _ _,t,cs,b,h=>by
  cases t<;>simp [AV.fits]at b
  simp only[CV]at h;obtain⟨_,c,_⟩:=h;rw[c];rfl
 |.nilr p,t,cs,b,h=>by
  cases t<;>simp [AV.fits]at b
  all_goals (have h:=ZbT h;rcases h with h|h|h<;>rw[h]<;>rfl)
 |.vw _,t,cs,b,h=>by
  cases t<;>simp [AV.fits]at b
  simp only[CV]at h;rw[h.2.1];rfl
 |.vs _ _ _,t,cs,b,h=>by
  cases t<;>simp [AV.fits]at b
  simp only[CV]at h;rcases h.2 with ⟨_,_,_,c⟩|⟨_,_,_,_,_,_,_,_,c⟩<;>rw[c]<;>rfl
 |.nils,t,cs,b,h=>by
  cases t<;>simp [AV.fits]at b
  simp only[CV]at h;rw[h];rfl
 |.nw _ _ _ _,t,cs,b,h=>by
  cases t<;>simp [AV.fits]at b
  simp only[CV]at h;obtain⟨_,_,v,c,_⟩:=h;rw[c];rfl
 |.np _ _ _ _ _ _,t,cs,b,h=>by
  cases t<;>simp [AV.fits]at b
  simp only[CV]at h;obtain⟨_,_,a,c,_⟩:=h;rw[c];rfl
theorem Kg.length{w:World}{g:Gh}:∀(l:Zo) (t:Ty) (cs:List Value),l.fits t=Uc->Kg w g l cs->cs.length=t.size
 |.nil,t,cs,b,h=>by
  cases t<;>simp [Zo.fits]at b
  simp only[Kg]at h;rw[h];rfl
 |.cons a l,t,cs,b,h=>by
  cases t<;>simp only[Zo.fits,Va,Vq]at b
  simp only[Kg]at h;obtain⟨e,f,c,i,j⟩:=h;rw[c,Vi,CV.length a _ e b.1 i,Kg.length l _ f b.2 j];rfl
end
theorem KK{t b:Ty}{x:El t}{y:El b}(h:Kz t b x=Ua y):∃e:t=b,y=e▸x:=by unfold Kz at h;grind
theorem Zep{t:Ty}{x y:El t}(h:Kz t t x=Ua y):y=x:=by have ⟨e,h⟩:=KK h;omega
theorem RT{css:List (List Value)}{i:Nat}{c:List Value}(h:css[i]? =Ua c)(n:Nat)(f:∀c∈css,c.length=n):
 css.flatten=(css.take i).flatten++c++(css.drop (i+1)).flatten/\(css.take i).flatten.length=i*n/\
 ∀d,(css.set i d).flatten=(css.take i).flatten++d++(css.drop (i+1)).flatten:=by
 obtain⟨b,rfl⟩:=Vu.1 h;refine⟨?_,?_,λd=>?_⟩
 ·rw[<-List.flatten_append_singleton_flatten b]
 ·rw[Yt λc e=>f c (List.mem_of_mem_take e),List.length_take,Nat.min_eq_left (Nat.le_of_lt b)]
 ·rw[List.set_eq_take_append_cons_drop,Zn b];simp
where
 List.flatten_append_singleton_flatten {css:List (List Value)}{i:Nat} (b:i<css.length):css.flatten=(css.take i).flatten++css[i]++(css.drop (i+1)).flatten:=by
  have j:css=css.take i++css.drop i:=by simp
  have k:css.drop i=css[i]::css.drop (i+1):=Vea b;grind
def At(t:Ty)(p:List Nat)(c:Ty)(cs b:List Value):Prop:= ∃o pre post,ZX t p=Ua (o,c)/\cs=pre++b++post/\pre.length=o
theorem Ze5{w:World}{I:Nat->Prop}{H:AH}:∀(p:List Nat) (t:Ty) (x:El t) (l l' :List Nat) (r:DV) (cs:List Value),(GY t x p).run H l=Ua (r,l')->Rd w I t x cs->
 l' =l/\∃j,At t p r.1 cs j/\Rd w I r.1 r.2 j:=by
 intro p t
 induction t generalizing p with
 |prod a b D G=>
  intro x l l' r cs h s;obtain⟨j,A,C,m,k⟩:=s
  match p with
  |[]=>
   obtain⟨rfl,rfl⟩:=h
   exact⟨rfl,cs,⟨0,[],[],rfl,by simp,rfl⟩,j,A,C,m,k⟩
  |0::p=>
   obtain⟨e,d,⟨o,pre,post,u,J,z⟩,q⟩:=D p x.1 l l' r j h m
   exact⟨e,d,⟨o,pre,post++A,by assumption,by grind,z⟩,q⟩
  |(n+1)::p=>
   obtain⟨e,d,⟨o,pre,post,u,J,z⟩,q⟩:=G (n::p) x.2 l l' r A h k;refine⟨e,d,⟨o+a.size,j++pre,post,by simp [ZX,u],by grind,?_⟩,q⟩
   rw[Vi,Rd.length a _ _ m,z];omega
 |arr n t O=>
  intro x l l' r cs h s;obtain⟨C,f,m,k⟩:=s
  match p with
  |[]=>
   obtain⟨rfl,rfl⟩:=h
   exact⟨rfl,cs,⟨0,[],[],rfl,by simp,rfl⟩,C,f,m,k⟩
  |i::p=>
   simp [GY,Zy.run]at h
   cases K:(x:List (El t))[i]? with
   |none=>grind
   |some y=>
    rw[K]at h;obtain⟨c,L,N⟩:=k.get i y K;obtain⟨e,d,⟨o,pre,post,u,J,z⟩,q⟩:=O p y l l' r c h N;have ⟨Q,R,_⟩:=RT L t.size (Rd.all_length k);have M:i<n:=by grind
    refine⟨e,d,⟨o+i*t.size,(f.take i).flatten++pre,post++(f.drop (i+1)).flatten,by simp [ZX,M,u],by grind,?_⟩,q⟩
    grind
 |_=>
  intro x l l' r cs h s
  match p with
  |[]=>
   obtain⟨rfl,rfl⟩:=h
   exact⟨rfl,cs,⟨0,[],[],rfl,by simp,rfl⟩,s⟩
  |_::_=>simp [GY,Zy.run]at h
theorem ZfM{w:World}{I:Nat->Prop}{H:AH}:∀(p:List Nat) (t:Ty) (x:El t) (l l' :List Nat) (y:DV) (z:El t) (cs d:List Value),(Xr t x p y).run H l=Ua (z,l')->Rd w I t x cs->Rd w I y.1 y.2 d->
 l' =l/\∃o pre A post,ZX t p=Ua (o,y.1)/\cs=pre++A++post/\pre.length=o/\A.length=d.length/\Rd w I t z (pre++d++post):=by
 intro p t
 induction t generalizing p with
 |prod a b O Q=>
  intro x l l' y z cs d h J r;obtain⟨A,M,N,C,m⟩:=J
  match p with
  |[]=>
   simp only[Xr,Zy.run]at h
   cases f:Kz y.1 (.prod a b) y.2 with
   |none=>grind
   |some X=>
    rw[f]at h;simp only[Za,ZL,Vb]at h;obtain⟨rfl,rfl⟩:=h;obtain⟨V,W⟩:=y;obtain⟨e,j⟩:=KK f;simp only at e;subst e;have j:=j;subst j;refine⟨rfl,0,[],cs,[],rfl,by simp,rfl,?_,by grind⟩
    rw[Rd.length _ _ _ r,N,Vi,Rd.length a _ _ C,Rd.length b _ _ m];rfl
  |0::p=>
   simp only[Xr,Zy.run_bind]at h
   cases s:(Xr a x.1 p y).run H l with
   |none=>grind
   |some q=>
    rw[s]at h;simp only[Za,Zy.run,ZL,Vb]at h;obtain⟨rfl,rfl⟩:=h;obtain⟨e,o,pre,k,post,K,S,L,D,G⟩:=O p x.1 l q.2 y q.1 A d s C r
    exact⟨e,o,pre,k,post++M,by assumption,by grind,L,D,pre++d++post,M,by simp,G,m⟩
  |(n+1)::p=>
   simp only[Xr,Zy.run_bind]at h
   cases s:(Xr b x.2 (n::p) y).run H l with
   |none=>grind
   |some q=>
    rw[s]at h;obtain⟨rfl,rfl⟩:=h;obtain⟨e,o,pre,k,post,K,S,L,D,G⟩:=Q (n::p) x.2 l q.2 y q.1 M d s m r;refine⟨e,o+a.size,A++pre,k,post,by simp [ZX,K],by grind,?_,D,A,pre++d++post,by simp,C,G⟩
    rw[Vi,Rd.length a _ _ C,L];omega
 |arr n t ih=>
  intro x l l' y z cs d h J r;obtain⟨N,u,C,m⟩:=J
  match p with
  |[]=>
   simp only[Xr,Zy.run]at h
   cases f:Kz y.1 (.arr n t) y.2 with
   |none=>grind
   |some X=>
    rw[f]at h;simp only[Za,ZL,Vb]at h;obtain⟨rfl,rfl⟩:=h;obtain⟨V,W⟩:=y;obtain⟨e,j⟩:=KK f;simp only at e;subst e;have j:=j;subst j;refine⟨rfl,0,[],cs,[],rfl,by simp,rfl,?_,by grind⟩
    rw[Rd.length _ _ _ r,C,Yt (Rd.all_length m),<-m.length,N];rfl
  |i::p=>
   simp only[Xr,Zy.run]at h
   cases U:(x:List (El t))[i]? with
   |none=>grind
   |some R=>
    rw[U]at h;simp only[Za,Zy.run_bind]at h
    cases s:(Xr t R p y).run H l with
    |none=>grind
    |some q=>
     rw[s]at h;simp only[Za,Zy.run,ZL,Vb]at h;obtain⟨rfl,rfl⟩:=h;obtain⟨c,f,Z⟩:=m.get i R U;obtain⟨e,o,pre,k,post,K,S,L,D,G⟩:=ih p R l q.2 y q.1 c d s Z r;obtain⟨s1,s2,s3⟩:=RT f t.size (Rd.all_length m);have Y:i<n:=by grind
     refine⟨e,o+i*t.size,(u.take i).flatten++pre,k,post++(u.drop (i+1)).flatten,by simp [ZX,Y,K],by grind,?_,D,?_,u.set i (pre++d++post),?_,m.set i G⟩
     all_goals grind
 |_=>
  intro x l l' y z cs d h J r
  match p with
  |[]=>
   simp only[Xr,Zy.run]at h
   cases f:Kz y.1 _ y.2 with
   |none=>rw[f]at h;grind
   |some X=>
    rw[f]at h;simp only[Za]at h;obtain⟨rfl,rfl⟩:=Vf (KO h);obtain⟨V,W⟩:=y;obtain⟨e,j⟩:=KK f;simp only at e;subst e;have j:=j;subst j;refine⟨rfl,0,[],cs,[],rfl,by simp,rfl,?_,by grind⟩
    rw[Rd.length _ _ _ r,Rd.length _ _ _ J]
  |_::_=>simp [Xr,Zy.run]at h
theorem Zty{w:World}{g:Gh}{H:AH}:∀(l:Zo) (t:Ty) (n:Nat) (p:List Nat) (k b:List Nat) (v:AV) (cs:List Value),
 (∀(a:AV) (t:Ty) (p k b:List Nat) (v:AV) (cs:List Value),sizeOf a<sizeOf l->(GX a p).run H k=Ua (v,b)->a.fits t=Uc->CV w g a cs->b=k/\∃c f,At t p c cs f/\v.fits c=Uc/\CV w g v f)->
 (Ze4 l n p).run H k=Ua (v,b)->l.fits t=Uc->Kg w g l cs->b=k/\∃c f,At t (n::p) c cs f/\v.fits c=Uc/\CV w g v f:=by
 intro l
 induction l using Zo.rec (motive_1:=λ_=>True) with
 |nil=>intro t n p k b v cs _ h;simp [Ze4,Zy.run]at h
 |cons a l _ D=>
  intro t n p k b v cs i h j C;cases t<;>simp [Zo.fits,Va,Vq]at j
  rename_i y G;have ⟨f,s,I,u,z⟩:=C
  cases n with
  |zero=>
   have ⟨e,c,d,⟨o,pre,post,x,A,m⟩,q,r⟩:=i a y p k b v f (by grind) h j.1 u
   exact⟨e,c,d,⟨o,pre,post++s,by assumption,by grind,m⟩,q,r⟩
  |succ n=>
   obtain⟨e,c,d,⟨o,pre,post,x,A,m⟩,q,r⟩:=D G n p k b v s (by grind) h j.2 z;refine⟨e,c,d,⟨o+y.size,f++pre,post,by simp [ZX,x],by grind,?_⟩,q,r⟩
   rw[Vi,CV.length a _ _ j.1 u,m];omega
 |_=>trivial
theorem Ztx{w:World}{g:Gh}{H:AH}(N:Nat):∀(a:AV) (_:sizeOf a<N) (t:Ty) (p k c:List Nat) (v:AV) (cs:List Value),(GX a p).run H k=Ua (v,c)->a.fits t=Uc->CV w g a cs->
 c=k/\∃j b,At t p j cs b/\v.fits j=Uc/\CV w g v b:=by
 induction N with
 |zero=>omega
 |succ N u=>
 intro a z t p k c v cs h f s
 match p with
 |[]=>
  have:GX a []=.ret a:=by cases a<;>rfl
  rw[this]at h;obtain⟨rfl,rfl⟩:=Vf (KO h)
  exact⟨rfl,t,cs,⟨0,[],[],by cases t<;>rfl,by simp,rfl⟩,f,s⟩
 |n::p=>
  cases a with
  |d m x=>
   simp only[AV.fits,Ki]at f;subst f;simp [GX,Zy.run_bind]at h
   cases i:(GY m x (n::p)).run H k with
   |none=>grind
   |some q=>
    rw[i]at h;obtain⟨rfl,rfl⟩:=Vf (KO h);obtain⟨e,b,r,y⟩:=Ze5 (n::p) m x k q.2 q.1 cs i (by assumption)
    exact⟨e,q.1.1,b,r,by simp [AV.fits],by assumption⟩
  |agg l=>
   exact Zty l t n p k c v cs (by grind) h (by assumption) (by assumption)
  |_=>simp [GX,Zy.run]at h
theorem Ze3{w:World}{g:Gh}{H:AH}{a:AV}{t:Ty}{p k b:List Nat}{v:AV}{cs:List Value}(h:(GX a p).run H k=Ua (v,b))(f:a.fits t=Uc)(e:CV w g a cs):
 b=k/\∃d c,At t p d cs c/\v.fits d=Uc/\CV w g v c:=Ztx (sizeOf a+1) a (by omega) t p k b v cs h f e
theorem Zlc{w:World}{g:Gh}:∀(t:Ty) (x:El t) (cs:List Value),(Hl t x).fits t=Uc->Rd w g.I t x cs->Kg w g (Hl t x) cs:=by
 intro t
 induction t with
 |prod a b _ i=>
  intro x cs c h;have ⟨d,e,f,j,k⟩:=h;simp [Hl,Zo.fits]at c
  exact⟨d,e,f,by assumption,by grind⟩
 |unit=>intro x cs _ h;assumption
 |_=>intro x cs c;simp [Zo.fits]at c
structure Put (t:Ty) (p:List Nat) (cs d:List Value) (o:Nat) (pre c1 post:List Value) (t1:Ty):Prop where
 off:ZX t p=Ua (o,t1)
 cs:cs=pre++c1++post
 len:pre.length=o
 eq:c1.length=d.length
theorem Zn4{w:World}{g:Gh}{H:AH}:∀(l:Zo) (t:Ty) (n:Nat) (p k z:List Nat) (v:AV) (m:Zo) (cs d:List Value),
 (Hw t l n p v).run H k=Ua (m,z)->l.fits t=Uc->Kg w g l cs->CV w g v d->z=k/\∃o pre c post f,Put t (n::p) cs d o pre c post f/\m.fits t=Uc/\Kg w g m (pre++d++post):=by
 intro l
 induction l using Zo.rec (motive_1:=λ_=>True) with
 |nil=>intro t n p k z v m cs d h;cases t<;>simp [Hw,Zy.run]at h
 |cons a l _ U=>
  intro t n p k z v m cs d h b R I;cases t<;>simp only[Zo.fits,Va,Vq]at b
  rename_i i N;obtain⟨c,j,V,A,C⟩:=R
  cases n with
  |zero=>
   match p with
   |[]=>
    simp only[Hw]at h
    cases u:v.fits i with
    |false=>rw[u]at h;simp [Zy.run]at h
    |true=>
     rw[u]at h;obtain⟨rfl,rfl⟩:=Vf (KO (by assumption));refine⟨rfl,0,[],c,j,i,⟨by cases i<;>rfl,by grind,rfl,?_⟩,by simp [Zo.fits,u,b.2],d,j,by simp,I,C⟩
     rw[CV.length a i c b.1 A,CV.length v i d u I]
   |q::p=>
    cases a with
    |d K x=>
     have S:K=i:=by simpa [AV.fits] using b.1
     subst S
     cases v with
     |d f y=>
      simp only[Hw,Zy.run_bind]at h
      cases s:(Xr K x (q::p) ⟨f,y⟩).run H k with
      |none=>grind
      |some r=>
       rw[s]at h;obtain⟨rfl,rfl⟩:=Vf (KO (by assumption));obtain⟨e,o,pre,J,post,L,O,D,G,M⟩:=ZfM (q::p) K x k r.2 ⟨f,y⟩ r.1 c d s (by assumption) (by assumption)
       exact⟨e,o,pre,J,post++j,f,⟨by assumption,by grind,D,G⟩,by simp [Zo.fits,AV.fits,b.2],pre++d++post,j,by simp,by assumption,C⟩
     |_=>simp [Hw,Zy.run]at h
    |_=>simp [Hw,Zy.run]at h
  |succ n=>
   simp only[Hw,Zy.run_bind]at h
   cases s:(Hw N l n p v).run H k with
   |none=>grind
   |some r=>
    rw[s]at h;obtain⟨rfl,rfl⟩:=Vf (KO (by assumption));obtain⟨e,o,pre,J,post,f,⟨L,O,D,G⟩,M,Q⟩:=U N n p k r.2 v r.1 j d s b.2 C I;refine⟨e,o+i.size,c++pre,J,post,f,⟨by simp [ZX,L],by grind,?_,G⟩,by simp [Zo.fits,b.1,M],c,pre++d++post,by simp,A,Q⟩
    rw[Vi,CV.length a _ _ b.1 A,D];omega
 |_=>trivial
theorem WR(t:Ty):ZX t []=Ua (0,t):=by cases t<;>rfl
theorem Zn3{w:World}{g:Gh}{H:AH}{t:Ty}{c:AV}{p k C:List Nat}{v j:AV}{cs d:List Value}(h:(Rm t c p v).run H k=Ua (j,C))(Q:c.fits t=Uc)(S:CV w g c cs)(G:CV w g v d)
 (s:cs.length=t.size):C=k/\∃o pre D post f,Put t p cs d o pre D post f/\j.fits t=Uc/\CV w g j (pre++d++post):=by
 match p with
 |[]=>
  simp only[Rm]at h
  cases A:v.fits t with
  |false=>rw[A]at h;simp [Zy.run]at h
  |true=>
   rw[A]at h;obtain⟨rfl,rfl⟩:=Vf (KO (by assumption));refine⟨rfl,0,[],cs,[],t,⟨WR t,by simp,rfl,?_⟩,A,by grind⟩
   rw[s,CV.length v t d A G]
 |n::q=>
  cases c with
  |agg l=>
   simp only[Rm,Zy.run_bind]at h
   cases i:(Hw t l n q v).run H k with
   |none=>grind
   |some r=>
    rw[i]at h;obtain⟨rfl,rfl⟩:=Vf (KO (by assumption));obtain⟨e,o,pre,u,post,f,m,J,O⟩:=Zn4 l t n q k r.2 v r.1 cs d i (by assumption) (by assumption) G
    exact⟨e,o,pre,u,post,f,m,by assumption,by assumption⟩
  |d b x=>
   have R:b=t:=by simpa [AV.fits] using Q
   subst R;have K:Rd w g.I b x cs:=by assumption
   have other:(bif (Hl b x).fits b then(Hw b (Hl b x) n q v).bind λl=>.ret (.agg l) else Zy.fail:Zy AV).run H k=Ua (j,C)->
    C=k/\∃o pre D post f,Put b (n::q) cs d o pre D post f/\j.fits b=Uc/\CV w g j (pre++d++post):=by
    intro h
    cases z:(Hl b x).fits b with
    |false=>rw[z]at h;simp [Zy.run]at h
    |true=>
     rw[z]at h;simp only[Zd,Zy.run_bind]at h
     cases i:(Hw b (Hl b x) n q v).run H k with
     |none=>grind
     |some r=>
      rw[i]at h;obtain⟨rfl,rfl⟩:=Vf (KO (by assumption));obtain⟨e,o,pre,u,post,f,m,J,O⟩:=Zn4 _ b n q k r.2 v r.1 cs d i z (Zlc b x cs z K) G;exact⟨e,o,pre,u,post,f,m,by assumption,by assumption⟩
   cases v with
   |d f y=>
    simp only[Rm,Zy.run_bind]at h
    cases i:(Xr b x (n::q) ⟨f,y⟩).run H k with
    |none=>grind
    |some r=>
     rw[i]at h;obtain⟨rfl,rfl⟩:=Vf (KO (by assumption));obtain⟨e,o,pre,u,post,m,L,M,N,J⟩:=ZfM (n::q) b x k r.2 ⟨f,y⟩ r.1 cs d i K (by assumption)
     exact⟨e,o,pre,u,post,f,⟨m,L,M,N⟩,by assumption,by assumption⟩
   |_=>exact other h
  |_=>simp [Rm,Zy.run]at h
end Tr
end
section
namespace Tr
open Go
def Zgf(f:List Value->Bool)(size:Nat):Nat->List Value->Bool
 |0,cs=>cs.isEmpty
 |n+1,cs=>f (cs.take size)&&Zgf f size n (cs.drop size)
def Y5:Ty->List Value->Bool
 |.int k,[.int c n]=>k==c&&n==0
 |.bool,[.bool b]=> !b
 |.str,[.string s]=>s.data.toList.isEmpty
 |.sl _,[.slice Ub 0 0]=>Uc
 |.pt _,[.pointer Ub]=>Uc
 |.lk _ _,[.pointer Ub]=>Uc
 |.pn _,[.pointer Ub]=>Uc
 |.unit,[]=>Uc
 |.prod a b,cs=>Y5 a (cs.take a.size)&&Y5 b (cs.drop a.size)
 |.arr n t,cs=>Zgf (Y5 t) t.size n cs
 |_,_=>Ud
def ZhZ:List Value->Bool
 |[.pointer Ub]=>Uc
 |[.nilFunc]=>Uc
 |[.map Ub]=>Uc
 |_=>Ud
def Zh0:List Value->Bool
 |[.slice Ub 0 0]=>Uc
 |_=>Ud
def Rt:Ty->List Value->Bool
 |.prod a b,cs=>(bif a.data then Y5 a (cs.take a.size) else(match a with
   |.ref=>ZhZ (cs.take 1)
   |.sl _=>Zh0 (cs.take 1)
   |a=>(cs.take a.size).length==a.size&&(cs.take a.size).all Vc))&&Rt b (cs.drop a.size)
 |.unit,cs=>cs.isEmpty
 |_,_=>Ud
def Dl(t:Ty)(cs:List Value):Bool:=
 bif t.data then Y5 t cs else match t with
  |.ref=>ZhZ cs
  |.sl _=>Zh0 cs
  |.prod a b=>Rt (.prod a b) cs
  |t=>cs.length==t.size&&cs.all Vc
theorem ZdM{w:World}{I:Nat->Prop}:∀(t:Ty) (cs:List Value),Y5 t cs=Uc->Rd w I t (zeroEl t) cs:=by
 intro t
 induction t with
 |int k=>
  intro cs h
  match cs,h with
  |[.int p n],h=>
   simp only[Y5,Va,Ki]at h
   obtain⟨rfl,rfl⟩:=h;rfl
 |bool=>
  intro cs h
  match cs,h with
  |[.bool b],h=>simp only[Y5,Vfa]at h;subst h;rfl
 |str=>
  intro cs h
  match cs,h with
  |[.string s],h=>
   obtain⟨⟨l⟩⟩:=s;simp only[Y5,Vr]at h
   subst h;rfl
 |sl t _=>
  intro cs h
  match cs,h with
  |[.slice Ub 0 0],_=>exact⟨Ub,0,[],rfl,trivial,λh=>absurd rfl h,Vm _⟩
 |unit=>
  intro cs h
  match cs,h with
  |[],_=>rfl
 |prod a b d e=>
  intro cs h;simp only[Y5,Va]at h
  exact⟨_,_,by simp,d _ h.1,e _ h.2⟩
 |arr n t m=>
  intro cs h;simp only[Y5]at h;refine⟨by simp [zeroEl],?_⟩
  induction n generalizing cs with
  |zero=>
   simp only[Zgf,Vr]at h;subst h
   exact⟨[],rfl,by simp [zeroEl,Fa]⟩
  |succ n f=>
   simp only[Zgf,Va]at h;obtain⟨c,i,j⟩:=f _ h.2;refine⟨cs.take t.size::c,?_,?_⟩
   ·rw[Vpa,<-i,Vy]
   ·exact⟨m _ h.1,j⟩
 |ref=>
  intro cs h
  simp [Y5]at h
 |pt t _=>
  intro cs h
  match cs,h with
  |[.pointer Ub],_=>rfl
 |lk a b _ _=>
  intro cs h
  match cs,h with
  |[.pointer Ub],_=>rfl
 |pn t _=>
  intro cs h
  match cs,h with
  |[.pointer Ub],_=>rfl
theorem ZlP{w:World}{g:Gh}{cs:List Value}(h:ZhZ cs=Uc):CV w g (.nilr Ud) cs:=by
 simp [CV]
 match cs,h with
 |[.pointer Ub],_=>simp
 |[.nilFunc],_=>simp
 |[.map Ub],_=>simp
theorem Zfb{w:World}{g:Gh}{cs:List Value}(h:Zh0 cs=Uc):CV w g .nils cs:=by
 match cs,h with
 |[.slice Ub 0 0],_=>rfl
theorem ZoX{w:World}{g:Gh}{t:Ty}{cs:List Value}(h:Y5 (.sl t) cs=Uc):CV w g .nils cs:=by
 match cs,h with
 |[.slice Ub 0 0],_=>rfl
theorem Zgg{w:World}{g:Gh}:∀(t:Ty) (cs:List Value),Rt t cs=Uc->Kg w g (DS Ud t) cs/\(DS Ud t).fits t=true:=by
 intro t
 induction t with
 |prod a b _ f=>
  intro cs h;simp only[Rt,Va]at h;obtain⟨j,k⟩:=f _ h.2;simp only[DS,Kg,Zo.fits,Va];have c:=h.1;have key:CV w g (Hz Ud a) (cs.take a.size)/\(Hz Ud a).fits a=true:=by
   cases e:a.isSl with
   |true=>
    obtain⟨t,rfl⟩:∃t,a=.sl t:=by cases a<;>simp [Ty.isSl]at e;simp
    have i:Hz Ud (.sl t)=.nils:=by simp [Hz,Ty.isSl,Zgi]
    rw[i];refine⟨?_,rfl⟩
    cases d:(Ty.sl t).data with
    |true=>rw[d]at c;exact ZoX c
    |false=>rw[d]at c;exact Zfb c
   |false=>
   unfold Hz
   cases d:a.data with
   |true=>
    rw[d]at c;simp only[e,Vwa,Bool.or_true,Vxa,Zd]at c⊢
    exact⟨by simpa only[CV] using ZdM a _ c,by simp [AV.fits]⟩
   |false=>
    rw[d]at c;simp only[Ze]at c⊢
    cases a with
    |ref=>exact⟨ZlP c,rfl⟩
    |sl t=>exact⟨Zfb c,rfl⟩
    |_=>
     simp only[Va,Ki,Vra]at c;exact⟨by assumption,by simp [Zgi,AV.fits]⟩
  exact⟨⟨_,_,by simp,key.1,j⟩,key.2,k⟩
 |unit=>
  intro cs h;simp only[Rt,Vr]at h;subst h
  exact⟨rfl,rfl⟩
 |_=>intro cs h;simp [Rt]at h
theorem Zgh{w:World}{g:Gh}{t:Ty}{cs:List Value}(h:Dl t cs=Uc):CV w g (X1 t) cs/\(X1 t).fits t=true:=by
 unfold Dl at h
 cases d:t.isSl with
 |true=>
  cases t<;>simp [Ty.isSl]at d
  rename_i t;have e:X1 (.sl t)=.nils:=by simp [X1,Ty.isSl]
  rw[e];refine⟨?_,rfl⟩
  cases c:(Ty.sl t).data with
  |true=>rw[c]at h;exact ZoX h
  |false=>rw[c]at h;exact Zfb h
 |false=>
 unfold X1
 cases c:t.data with
 |true=>
  rw[c]at h;simp only[d,Vwa,Vxa,Zd]at h⊢
  exact⟨by simpa only[CV] using ZdM t _ h,by simp [AV.fits]⟩
 |false=>
  rw[c]at h;simp only[Bool.false_and,Ze]at h⊢
  cases t with
  |ref=>exact⟨ZlP h,rfl⟩
  |sl t=>exact⟨Zfb h,rfl⟩
  |prod a b=>
   obtain⟨f,i⟩:=Zgg _ _ h
   exact⟨by assumption,by assumption⟩
  |_=>
   simp only[Va,Ki,Vra]at h;exact⟨by assumption,by simp [AV.fits]⟩
theorem ZxH(t:Ty)(h:t.data=Uc\/(match t with|.arr _ _=>False|_=>True)):(X1 t).isAgg=t.agg:=by
 unfold X1
 cases b:t.isSl with
 |true=>cases t<;>simp [Ty.isSl]at b;simp [AV.isAgg,Ty.agg]
 |false=>
 cases c:t.data with
 |true=>rfl
 |false=>
  cases t<;>simp_all [AV.isAgg,Ty.agg,Ty.data]
theorem ZxI{w:World}{g:Gh}{t:Ty}{z:Value}(i:t.data=Uc)(h:Ku w g (X1 t) z):Ku w g (.d t (zeroEl t)) z:=by
 cases b:t.isSl with
 |false=>
  have c:X1 t=.d t (zeroEl t):=by simp [X1,i,b]
  grind
 |true=>
  cases t<;>simp [Ty.isSl]at b
  rename_i t;have c:X1 (.sl t)=.nils:=by simp [X1,Ty.isSl]
  rw[c]at h;have ⟨e,f⟩:=h;refine⟨?_,.inr ?_⟩
  ·rw[e];exact⟨Ub,0,[],rfl,trivial,λh=>absurd rfl h,Vm _⟩
  ·exact f.resolve_left (by simp)
def Ty.chain:Ty->Bool
 |.prod _ b=>b.chain
 |.unit=>Uc
 |_=>Ud
def Ke(θ:TypeId->Option Ty)(t:Ty)(d:Option TypeDesc):Bool:=
 match t,d with
 |.int k,Ua (.int h)=>k==h
 |.bool,Ua .bool=>Uc
 |.str,Ua .string=>Uc
 |.sl e,Ua (.slice E)=>θ E==Ua e
 |.arr n e,Ua (.array m E)=>n==m&&θ E==Ua e
 |.unit,Ua (.struct c)=>c.isEmpty
 |.prod a b,Ua (.struct c)=>(Vt c.size).all (λf=>match c[f]? with
   |some fd=>match ZX (.prod a b) [f] with
    |some (o,i)=>fd.offset==o&&θ fd.type==some i&&fd.name != "_"
    |none=>Ud
   |none=>Uc)&&(ZX (.prod a b) [c.size]).isNone&&b.chain
 |.pt e,Ua (.pointer E)=>θ E==Ua e
 |.pn e,Ua (.pointer E)=>θ E==Ua e
 |.lk a b,Ua (.pointer E)=>θ E==Ua (ZaP a b)
 |.ref,Ua (.pointer _)=>Uc
 |.ref,Ua (.func _ _ _)=>Uc
 |.ref,Ua (.map _ _)=>Uc
 |.ref,Ua (.interface _)=>Uc
 |_,_=>Ud
def Zn8(P:Program)(T:TypeId):Bool:=match P.underlying T with
 |some (.slice b)=>(match P.info? b with
  |some i=>Vda i.bytes 256
  |none=>Ud)
 |_=>Uc
def Zja(P:Program)(θ:TypeId->Option Ty)(T:TypeId)(t:Ty):Bool:=
 match P.info? T with
 |some i=>Zn8 P T&&i.size==t.size&&Vda i.bytes 4096&&(match i.zero with
   |some z=>Dl t z.cells.toList&&Kd z==t.agg&&(t.data|| (match t with|.arr _ _=>Ud|_=>Uc))
   |none=>Ud)&&Ke θ t (P.underlying T)&& !P.stoodInHeld T&& !P.eqGuardType P.depth T
 |none=>Ud
structure Jo (P:Program) (θ:TypeId->Option Ty) (T:TypeId) (t:Ty):Prop where
 info:∃i z,P.info? T=Ua i/\i.size=t.size/\i.bytes<=4096/\i.zero=Ua z/\Dl t z.cells.toList=Uc/\Kd z=t.agg
 small:∀Et i,P.underlying T=Ua (.slice Et)->P.info? Et=Ua i->i.bytes<=256
 zagg:(X1 t).isAgg=t.agg
 shape:Ke θ t (P.underlying T)=Uc
 stood:P.stoodInHeld T=Ud
 guard:P.eqGuardType P.depth T=Ud
theorem Zw4{P:Program}{θ:TypeId->Option Ty}{T:TypeId}{t:Ty}(h:Zja P θ T t=Uc):Jo P θ T t:=by
 unfold Zja at h;split at h
 ·rename_i i k;simp only[Va,Ki]at h;have ⟨⟨⟨⟨⟨⟨d,e⟩,f⟩,b⟩,j⟩,r⟩,s⟩:=h;have m:∀c i,P.underlying T=Ua (.slice c)->P.info? c=Ua i->i.bytes<=256:=λc i p q=>by unfold Zn8 at d;simp_all
  split at b
  ·rename_i z n;simp [Va,Ki]at b;refine⟨⟨i,z,k,e,Vka f,n,b.1.1,b.1.2⟩,m,ZxH t ?_,j,by grind,by grind⟩;grind
  grind
 grind
section
variable {P:Program}{θ:TypeId->Option Ty}{T:TypeId}{t:Ty}
theorem Jo.und(h:Jo P θ T t):∃d,P.underlying T=Ua d:=by
 have:=h.shape
 cases b:P.underlying T with
 |some d=>simp
 |none=>rw[b]at this;cases t<;>simp [Ke]at this
theorem Jo.run_isAgg(h:Jo P θ T t)(w:World):(isAgg T).run P w=.ok t.agg w:=by
 obtain⟨d,b⟩:=h.und;have c:=h.shape;simp only[isAgg,underlying,b];cases t<;>cases d<;>simp_all [Ke,Ty.agg]
theorem Jo.run_sizeOf(h:Jo P θ T t)(w:World):(Go.sizeOf T).run P w=.ok t.size w:=by have ⟨i,z,b,c,_⟩:=h.info;simp [Go.sizeOf,typeInfo,Vh,run_program,Ve,b,Vj,c]
theorem Jo.run_zero(h:Jo P θ T t)(w:World):∃z,(zeroValue T).run P w=.ok z w/\∀w g,Ku w g (X1 t) z/\(X1 t).fits t=true:=by
 have ⟨i,z,c,f,j,d,b,e⟩:=h.info;refine⟨z,?_,λw g=>⟨⟨(Zgh b).1,.inr ?_⟩,(Zgh (w:=w) (g:=g) b).2⟩⟩
 ·simp [zeroValue,typeInfo,Vh,run_program,Ve,c,Vj,d]
 ·rw[h.zagg,e]
theorem ZxK:∀(t:Ty) (cs:List Value),t.chain=Uc->t.data=Uc->Y5 t cs=Uc->Rt t cs=true:=by
 intro t
 induction t with
 |prod a b _ d=>
  intro cs e c h;simp [Ty.data,Va]at c;simp [Y5,Va]at h;simp [Rt,c.1,Va]
  exact⟨h.1,d _ (by assumption) c.2 h.2⟩
 |unit=>
  intro cs _ _ h
  cases cs with
  |nil=>rfl
  |cons v l=>assumption
 |_=>intro cs e;simp [Ty.chain]at e
theorem ZoY{a b:Ty}{cs:List Value}(d:b.chain=Uc)(h:Dl (.prod a b) cs=Uc):Rt (.prod a b) cs=true:=by
 unfold Dl at h
 cases c:(Ty.prod a b).data with
 |true=>rw[c]at h;exact ZxK _ _ (by assumption) c h
 |false=>grind
theorem Jo.chain{a b:Ty}(h:Jo P θ T (.prod a b)):b.chain=true:=by have c:=h.shape;unfold Ke at c;grind
theorem Jo.run_zerox(h:Jo P θ T t)(x:Bool)(w:World):∃z,(zeroValue T).run P w=.ok z w/\∀w g,Ku w g (ZdL x t) z/\(ZdL x t).fits t=true:=by
 have c:ZdL x t=X1 t\/∃a b,t=.prod a b/\ZdL x t=.agg (DS Ud (.prod a b)):=by
  cases x with
  |false=>exact .inl rfl
  |true=>cases t with
   |prod a b=>exact .inr ⟨a,b,rfl,rfl⟩
   |_=>exact .inl rfl
 rcases c with c|⟨a,b,rfl,c⟩
 ·rw[c];exact h.run_zero w
 ·rw[c];have ⟨i,z,d,j,k,e,f,m⟩:=h.info;refine⟨z,?_,λw g=>?_⟩
  ·simp [zeroValue,typeInfo,Vh,run_program,Ve,d,Vj,e]
  ·obtain⟨n,p⟩:=Zgg _ _ (ZoY h.chain f);exact⟨⟨by assumption,.inr (by assumption)⟩,by assumption⟩
def Y7(w:World)(b o:Nat)(cs:List Value):Prop:= ∀j v,cs[j]? =Ua v->w.cell? ⟨b,o+j,Ub⟩=Ua v
theorem Y7.add{w:World}{b o:Nat}{cs:List Value}(h:Y7 w b o cs):∀j v,cs[j]? =Ua v->w.cell? ((⟨b,o,Ub⟩:Addr).add j)=Ua v:=by
 intro j v c;unfold Addr.add;split
 ·rename_i d;subst d;exact h 0 v c
 ·exact h j v c
theorem KB.at{w:World}{b o:Nat}{cs:List Value}(h:KB w b o cs):Y7 w b o cs:=by intro j v d;obtain⟨c,rfl⟩:=Vu.1 d;exact h j c
theorem Y7.of_heap{w:World}{b:Nat}{cs:Array Value}{e:TypeId}{fr:Nat×Nat}(h:w.heap[b]? =Ua (.cells cs e fr)){pre c post:List Value}(d:cs.toList=pre++c++post):Y7 w b pre.length c:=by intro j v f;simp [Vw,h,Vq];rw[<-Array.getElem?_toList,d,Vqa,Vs (by omega)];grind
theorem ZiU(h:Jo P θ T t){w:World}{b o:Nat}{cs:List Value}(c:Y7 w b o cs)(f:cs.length=t.size)(d:t.agg=Ud->∃v,cs=[v]):
 (loadVar T ⟨b,o,Ub⟩).run P w=.ok (G5 t.agg cs) w:=by
 simp [loadVar,Vh,h.run_isAgg]
 cases e:t.agg with
 |true=>
  simp [if_true,Vh,h.run_sizeOf,Ve,<-f,run_loadCells_list w _ cs c.add,Vj,G5]
 |false=>
  obtain⟨v,rfl⟩:=d e;simp [G5];have:=c 0 v rfl;grind
theorem Zcv{w:World}{g:Gh}{a:AV}{cs:List Value}(h:CV w g a cs)(c:a.fits t=Uc)(f:a.isAgg=t.agg):Ku w g a (G5 t.agg cs)/\(t.agg=Ud->∃v,cs=[v]):=by
 have d:a≠ .junk:=by rintro rfl;simp [AV.fits]at c
 have e:=CV.oneCell a cs d h t c;have b:=CV.length a t cs c h
 cases i:t.agg with
 |true=>exact⟨⟨by assumption,.inr (by rw[f,i];rfl)⟩,by simp⟩
 |false=>
  have j:t.size=1:=by cases t<;>simp_all [Ty.agg,Ty.size]
  rw[j]at b
  match cs,b with
  |[v],_=>
   refine⟨⟨?_,.inr ?_⟩,by simp⟩
   ·have:v.cells= #[v]:=by cases v<;>simp_all [Vl,Vc]
    simpa [G5,this] using h
   ·cases v<;>simp_all [G5,Kd,Vc]
end
theorem ZsZ{a:AV}{t:Ty}(h:a.fits t=Uc):a.isAgg=t.agg\/∃n,a=.jk n:=by
 cases a with
 |d b x=>simp [AV.fits,Ki]at h;subst h;exact .inl rfl
 |agg l=>cases l<;>cases t<;>simp_all [AV.fits,Zo.fits,AV.isAgg,Ty.agg]
 |jk n=>simp
 |_=>cases t<;>simp_all [AV.fits,AV.isAgg,Ty.agg]
end Tr
end
section
namespace Tr
open Go
section
variable {α β:Type}{H:AH}{l l' :List Nat}
theorem Zj{a x:α}:(Zy.ret a).run H l=Ua (x,l')↔a=x/\l=l' :=by simp [Zy.run]
theorem Zb{x:α×List Nat}:(Zy.fail:Zy α).run H l=Ua x↔False:=by simp [Zy.run]
theorem ZA{o:Option β}{k:β->Zy α}{x:α×List Nat}:(Zy.opt o k).run H l=Ua x↔∃b,o=Ua b/\(k b).run H l=Ua x:=by
 cases o<;>simp [Zy.run]
theorem Z3{id:Nat}{k:Option K5->Zy α}{x:α×List Nat}:(Zy.getH id k).run H l=Ua x↔(k (H id)).run H (id::l)=Ua x:=Iff.rfl
theorem Z2{a:Zy β}{f:β->Zy α}{x:α×List Nat}:(a.bind f).run H l=Ua x↔∃y m,a.run H l=Ua (y,m)/\(f y).run H m=Ua x:=by
 rw[Zy.run_bind]
 cases a.run H l with
 |none=>simp
 |some r=>
  have ⟨y,m⟩:=r;simp [ZL,Vb];exact⟨λh=>⟨y,m,⟨rfl,rfl⟩,h⟩,λ⟨e,d,⟨b,c⟩,h⟩=>by subst b;subst c;exact h⟩
theorem ZO{b:Bool}{x y:Zy α}{z:α×List Nat}:(bif b then x else y).run H l=Ua z↔(b=Uc/\x.run H l=Ua z)\/(b=Ud/\y.run H l=Ua z):=by
 cases b<;>simp
end
theorem KY{v c:Value}(h:v.cells.toList=[c])(b:Kd v=Ud):v=c:=by
 cases v<;>simp_all [Vl,Kd]
section
variable {w:World}{g:Gh}
theorem VR.int{k:IntKind}{n:Int}{v:Value}(h:VR w g (.d (.int k) n) v):v=.int k n:=by have ⟨b,c⟩:=h;exact KY b (by simpa [AV.isAgg,Ty.agg] using c)
theorem VR.bool{b:Bool}{v:Value}(h:VR w g (.d .bool b) v):v=.bool b:=by have ⟨c,e⟩:=h;exact KY c (by simpa [AV.isAgg,Ty.agg] using e)
theorem VR.str{s:List UInt8}{v:Value}(h:VR w g (.d .str s) v):v=.string ⟨s.toArray⟩:=by have ⟨b,c⟩:=h;exact KY b (by simpa [AV.isAgg,Ty.agg] using c)
theorem VR.sl{t:Ty}{xs:List (El t)}{v:Value}(h:VR w g (.d (.sl t) xs) v):∃a cap css,v=.slice a xs.length cap/\Fa (Rd w g.I t) xs css/\
 (xs≠ []->∃b off,a=Ua ⟨b,off,Ub⟩/\g.I b/\KB w b off css.flatten)/\xs.length<=cap:=by
 have ⟨c,e⟩:=h;have ⟨a,cap,css,f,i,j⟩:=c;exact⟨a,cap,css,KY f (by simpa [AV.isAgg,Ty.agg] using e),i,j⟩
theorem VR.ptr{id:Nat}{p:List Nat}{v:Value}(h:VR w g (.ptr id p) v):g.K id/\∃o t b,ZX (g.ty id) p=Ua (o,t)/\g.blk id=Ua b/\v=.pointer (Ua ⟨b,o,Ub⟩):=by have ⟨c,d⟩:=h;have ⟨j,o,t,b,e,f,i⟩:=c;exact⟨j,o,t,b,e,f,KY i (by simpa [AV.isAgg] using d)⟩
theorem VR.vp{id i:Nat}{p:List Nat}{v:Value}(h:VR w g (.vp id i p) v):g.K id/\∃o t b,ZX (g.ty id) p=Ua (o,t)/\g.blk id=Ua b/\v=.pointer (Ua ⟨b,i* (g.ty id).size+o,Ub⟩):=by have ⟨c,d⟩:=h;have ⟨k,o,t,b,e,f,j⟩:=c;exact⟨k,o,t,b,e,f,KY j (by simpa [AV.isAgg] using d)⟩
theorem VR.dp{t:Ty}{x:El t}{v:Value}(h:VR w g (.dp t x) v):∃b off c,v=.pointer (Ua ⟨b,off,Ub⟩)/\g.I b/\KB w b off c/\Rd w g.I t x c:=by have ⟨d,e⟩:=h;have ⟨b,off,c,f,i⟩:=d;exact⟨b,off,c,KY f (by simpa [AV.isAgg] using e),i⟩
theorem VR.vw{id:Nat}{v:Value}(h:VR w g (.vw id) v):g.K id/\v=g.slv id:=by have ⟨b,c⟩:=h;exact⟨b.1,KY b.2.1 (by simpa [AV.isAgg] using c)⟩
theorem VR.vs{id c n:Nat}{v:Value}(h:VR w g (.vs id c n) v):g.K id/\Zcc (g.slv id) (g.ty id).size c n [v]:=by
 have ⟨b,d⟩:=h;refine⟨b.1,?_⟩;have e:Kd v=false:=by simpa [AV.isAgg] using d
 have:v.cells.toList=[v]:=by cases v<;>simp_all [Vl,Kd]
 rw[this]at b;exact b.2
theorem VR.nw{id ver:Nat}{b:Ty}{k:El b}{v:Value}(h:VR w g (.nw id ver b k) v):g.K id/\ver<=g.ver id/\v.oneCell' =Uc/\(g.ver id=ver->v=g.row id b k):=by have ⟨c,d⟩:=h;have ⟨j,m,u,e,f,i⟩:=c;have:v=u:=KY e (by simpa [AV.isAgg] using d);subst this;exact⟨j,m,f,i⟩
theorem VR.np{id ver:Nat}{c:Ty}{k:El c}{i:Nat}{p:List Nat}{v:Value}(h:VR w g (.np id ver c k i p) v):g.K id/\ver<=g.ver id/\∃a,v=.pointer (Ua a)/\
 (g.ver id=ver->∃b len cap o t,g.row id c k=.slice (Ua ⟨b,0,Ub⟩) len cap/\ZX (Re (g.ty id)) p=Ua (o,t)/\a=⟨b,i* (Re (g.ty id)).size+o,Ub⟩):=by
 have ⟨d,e⟩:=h;have ⟨m,n,a,f,j⟩:=d;exact⟨m,n,a,KY f (by simpa [AV.isAgg] using e),j⟩
theorem VR.mp{id:Nat}{v:Value}(h:VR w g (.mp id) v):g.K id/\∃b,g.blk id=Ua b/\v=.map (Ua b):=by have ⟨c,d⟩:=h;have ⟨i,b,e,f⟩:=c;exact⟨i,b,e,KY f (by simpa [AV.isAgg] using d)⟩
theorem VR.fn{f:FuncId}{l:Zo}{v:Value}(h:VR w g (.fn f l) v):∃b:List Value,v=Xa f b/\Kg w g l b:=by have ⟨c,d⟩:=h;have ⟨b,e,i⟩:=c;exact⟨b,KY e (by simpa [AV.isAgg] using d),i⟩
theorem VR.nils{v:Value}(h:VR w g .nils v):v=.slice Ub 0 0:=by have ⟨b,c⟩:=h;exact KY b (by simpa [AV.isAgg] using c)
theorem VR.nilr{v:Value}{p:Bool}(h:VR w g (.nilr p) v):v=.pointer Ub\/v=.nilFunc\/v=.map none:=by
 have ⟨b,d⟩:=h;have b:=ZbT b;have c:Kd v=false:=by simpa [AV.isAgg] using d
 rcases b with h|h|h
 ·exact .inl (KY h c)
 ·exact .inr (.inl (KY h c))
 ·exact .inr (.inr (KY h c))
theorem VR.of1{a:AV}{v:Value}(h:Ku w g a v):VR w g a v:=by
 cases a with
 |tup l=>exact absurd h.1 (by simp [CV])
 |_=>exact h
theorem VR.to1{a:AV}{v:Value}(h:VR w g a v)(b:∀l,a≠ .tup l):Ku w g a v:=by
 cases a with
 |tup l=>exact absurd rfl (b l)
 |_=>exact h
theorem J1(k:IntKind)(n:Int):VR w g (.d (.int k) n) (.int k n):=⟨by simp [CV,Rd,Vl],.inr rfl⟩
theorem JZ(b:Bool):VR w g (.d .bool b) (.bool b):=⟨by simp [CV,Rd,Vl],.inr rfl⟩
theorem Zd2(s:List UInt8):VR w g (.d .str s) (.string ⟨s.toArray⟩):=⟨by simp [CV,Rd,Vl],.inr rfl⟩
theorem KN{a:AV}{v:Value}(h:CV w g a [v])(b:v.oneCell' =Uc)(c:a.isAgg=Ud):VR w g a v:=by
 apply VR.of1;refine⟨?_,.inr ?_⟩
 ·have:v.cells= #[v]:=by cases v<;>simp_all [Vl,Vc]
  simpa [this] using h
 ·cases v<;>simp_all [Kd,Vc]
end
def Fr(w:World)(g:Gh)(F:Nat->AV)(tmps:Array Value):Prop:= ∀t,VR w g (F t) (tmps.getD t undef)
theorem Fr.mono{w w' :World}{g b:Gh}{F:Nat->AV}{tmps:Array Value}(d:Kq g.I w w')(c:g.Le b)(h:Fr w g F tmps):Fr w' b F tmps:=λt=>(h t).mono d c
theorem Zpe{w:World}{g:Gh}(v:Value):VR w g (Zeg v) v:=by
 unfold Zeg;split
 ·exact JZ _
 ·exact J1 _ _
 ·rename_i s;have ⟨⟨l⟩⟩:=s;exact Zd2 l
 ·exact⟨by simp [CV,Vl],.inr rfl⟩
 ·exact⟨by simp [CV,Vl],.inr rfl⟩
 ·exact⟨by simp [CV,Vl],.inr rfl⟩
 ·exact⟨by simp [CV,Vl],.inr rfl⟩
 ·exact HH
theorem Fr.eval{w:World}{g:Gh}{F:Nat->AV}{a:Act}(h:Fr w g F a.tmps)(x:Operand):VR w g (Zz F x) (a.eval x):=by
 cases x with
 |tmp t=>exact h t
 |const v=>exact Zpe v
 |global i=>exact HH
 |func f=>
  simp [Zz]
  cases b:Vk f WQ with
  |false=>exact HH
  |true=>exact⟨by simp [CV,Kg,Act.eval,Vl,Xa,b],.inr rfl⟩
def Zu(B:Z1)(H' :AH)(w:World)(g:Gh)(nid:Nat)(v:AV)(r:Result Next):Prop:=
 ∃val b c d,(r=.ok (.value val) b\/(r=.ok .skip b/\val=undef))/\RH B H' b c d/\g.Le c/\Kq g.I w b/\VR b c v val/\
  ∀id,c.K id->g.K id\/(nid<=id/\id<nid+Wu)
theorem Zu.pure{B:Z1}{H:AH}{w:World}{g:Gh}{ow:Nat->Nat->Prop}{nid:Nat}{v:AV}{val:Value}{r:Result Next}(b:RH B H w g ow)(c:r=.ok (.value val) w)(d:VR w g v val):Zu B H w g nid v r:=
 ⟨val,w,g,ow,.inl c,b,.refl g,λ_ _=>rfl,d,λ_ h=>.inl h⟩
theorem Zu.after_le{B:Z1}{H' :AH}{w:World}{g d:Gh}{nid:Nat}{v:AV}{r:Result Next}(c:g.Le d)(s:∀id,d.K id->g.K id)(h:Zu B H' w d nid v r):Zu B H' w g nid v r:=by have ⟨val,x,i,f,j,k,m,n,p,q⟩:=h;exact⟨val,x,i,f,j,k,c.trans m,λb u=>n b (c.I b u),p,λid e=>(q id e).imp (s id) λh=>h⟩
theorem YT{g:Gh}{nid:Nat}(b:∀id,g.K id->id<nid\/nid+Wu<=id):¬g.K nid:=λh=>by have:=b nid h;unfold Wu at this;omega
theorem Zu.new' {B:Z1}{H:AH}{w:World}{g:Gh}{ow:Nat->Nat->Prop}{nid:Nat}{v:AV}{val:Value}{r:Result Next}{t:Ty}{sv:Value}{o:Obj}{ob:K5}(c:RH B H w g ow)(e:¬g.K nid)
 (s:r=.ok (.value val) (w.alloc o)) (q:ORel (w.alloc o) (g.add nid t (Ua w.heap.size) sv) (λk=>k=w.heap.size) nid ob)
 (x:VR (w.alloc o) (g.add nid t (Ua w.heap.size) sv) v val):Zu B (Z0 H nid (Ua ob)) w g nid v r:=by
 have d:∀k,k<w.heap.size->(w.alloc o).heap[k]? =w.heap[k]? :=λk i=>by show (w.heap.push o)[k]? =_;rw[Array.getElem?_push,Zg (by omega)]
 refine⟨val,w.alloc o,g.add nid t (Ua w.heap.size) sv,Xk ow nid (λk=>k=w.heap.size),.inl s,?_,Gh.le_add e _ _ _,λb p=>d b (c.ilt b p),x,?_⟩
 ·have u:(w.alloc o).heap.size=w.heap.size+1:=Array.size_push ..;refine c.add e d (by omega) rfl rfl ⟨rfl,Vm _⟩ (λk i=>?_) q;subst i;refine⟨λn=>absurd (c.ilt _ n) (by omega),by omega,.inr c.size,λf j m=>?_⟩;have:=(c.sep f _ j m).2.1;omega
 ·intro id h;rcases h with rfl|h
  ·exact .inr ⟨Vm _,by unfold Wu;omega⟩
  ·exact .inl h
theorem Zu.new{B:Z1}{H:AH}{w:World}{g:Gh}{ow:Nat->Nat->Prop}{nid:Nat}{v:AV}{val:Value}{r:Result Next}{t:Ty}{sv:Value}{o:Obj}{ob:K5}(b:RH B H w g ow)(c:∀id,g.K id->id<nid\/nid+Wu<=id)
 (e:r=.ok (.value val) (w.alloc o)) (d:ORel (w.alloc o) (g.add nid t (Ua w.heap.size) sv) (λk=>k=w.heap.size) nid ob)
 (f:VR (w.alloc o) (g.add nid t (Ua w.heap.size) sv) v val):Zu B (Z0 H nid (Ua ob)) w g nid v r:=Zu.new' b (YT c) e d f
structure Z4 (P:Program) (E:Z9):Prop where
 ty:∀T t,E.ty T=Ua t->Jo P E.ty T t
 mty:∀T m,E.mty T=Ua m->∃K V,P.underlying T=Ua (.map K V)/\E.ty K=Ua m.1/\E.ty V=Ua m.2
 pk:∀T,(E.pk T=1->∃e,P.underlying T=Ua (.pointer e))/\(E.pk T=2->∃a b c,P.underlying T=Ua (.func a b c))/\(E.pk T=3->∃a b,P.underlying T=Ua (.map a b))
 pz:∀T,E.pz T=Uc->∃e,P.underlying T=Ua (.pointer e)/\∀w:World,∃n,(Go.sizeOf e).run P w=.ok n w/\n≠0
 bd:∀T e,E.bd T=Ua e->∃z:Value,(∀w,(zeroValue T).run P w=.ok z w)/\z.cells= #[.pointer Ub,.slice Ub 0 0]
section ops
variable {P:Program}{E:Z9}{B:Z1}{H:AH}{w:World}{g:Gh}{ow:Nat->Nat->Prop}{nid:Nat}{a:Act}{F:Nat->AV}{v:AV}{patch:KF}{rd:List Nat}{o:Oper}
theorem Zj1{x:Operand}(c:RH B H w g ow)(hF:Fr w g F a.tmps)(b:o.op=.move x\/o.op=.assign x)(h:(ZS E nid o.op o.type (Zz F)).run H []=Ua ((v,patch),rd)):Zu B (Zs H patch) w g nid v ((execOp a.eval o).run P w):=by
 rcases b with b|b<;>rw[b]at h<;>simp [ZS,Vb]at h<;>obtain⟨⟨rfl,rfl⟩,_⟩:=h<;>
  exact Zu.pure c (by unfold execOp;rw[b];rfl) (hF.eval x)
theorem Zqh{c x y:Operand}(d:RH B H w g ow)(hF:Fr w g F a.tmps)(b:o.op=.pick c x y)(h:(ZS E nid o.op o.type (Zz F)).run H []=Ua ((v,patch),rd)):Zu B (Zs H patch) w g nid v ((execOp a.eval o).run P w):=by
 rw[b]at h;simp only[ZS]at h;split at h
 ·rename_i t f;obtain⟨⟨rfl,rfl⟩,_⟩:=h;have e:=(f▸hF.eval c).bool;cases t
  ·exact Zu.pure d (by unfold execOp;rw[b];simp only[e];rfl) (hF.eval y)
  ·exact Zu.pure d (by unfold execOp;rw[b];simp only[e];rfl) (hF.eval x)
 ·simp [Zb]at h
theorem Zqf{x:Operand}(q:RH B H w g ow)(hF:Fr w g F a.tmps)(f:o.op=.nilCheck x)(h:(ZS E nid o.op o.type (Zz F)).run H []=Ua ((v,patch),rd)):Zu B (Zs H patch) w g nid v ((execOp a.eval o).run P w):=by
 rw[f]at h;simp only[ZS,ZO,Zb,ZU,Ka]at h;obtain⟨m,⟨rfl,rfl⟩,_⟩:=h;have e:=hF.eval x;refine Zu.pure q ?_ e;cases r:Zz F x<;>rw[r]at m e<;>simp [ZlQ]at m
 ·obtain⟨b,off,c,d,_⟩:=e.dp;simp [execOp,f,d]
 ·obtain⟨_,s,t,b,_,_,d⟩:=e.ptr;simp [execOp,f,d]
 ·obtain⟨_,s,t,b,_,_,d⟩:=e.vp;simp [execOp,f,d]
 ·obtain⟨_,b,_,d⟩:=e.mp;simp [execOp,f,d]
 ·obtain⟨p,d,_⟩:=e.fn;obtain⟨n,j,i,d⟩:∃n j i,a.eval x=.func (.func n) j i:=by
   rcases ZbL _ p with ⟨_,k⟩|⟨_,k⟩
   all_goals exact⟨_,_,_,d.trans k⟩
  simp [execOp,f,d]
 ·obtain⟨_,_,a,d,_⟩:=e.np;simp [execOp,f,d]
theorem Zp2{x:Operand}{i:Nat}(n:RH B H w g ow)(hF:Fr w g F a.tmps)(e:o.op=.extract x i)(h:(ZS E nid o.op o.type (Zz F)).run H []=Ua ((v,patch),rd)):Zu B (Zs H patch) w g nid v ((execOp a.eval o).run P w):=by
 rw[e]at h;simp only[ZS]at h;split at h
 ·rename_i l p;simp [ZA,Zj,Vb]at h;obtain⟨j,q,⟨rfl,rfl⟩,_⟩:=h;have f:=hF.eval x;rw[p]at f;obtain⟨vs,k,m⟩:=f;have key:∀(l:Zo) (vs:List Value) (i:Nat),W8 w g l vs->l.nth i=Ua j->∃u,vs[i]? =Ua u/\Ku w g j u:=by
   intro l
   induction l using Zo.rec (motive_1:=λ_=>True) with
   |nil=>intro vs i _ h;simp [Zo.nth]at h
   |cons b l _ y=>
    intro vs i s h;obtain⟨u,r,rfl,c,d⟩:=s
    cases i with
    |zero=>simp [Zo.nth,ZL]at h;subst h;exact⟨u,rfl,c⟩
    |succ i=>simpa using y r i d h
   |_=>trivial
  obtain⟨u,c,d⟩:=key l vs i m q;refine Zu.pure n ?_ (VR.of1 d);simp [execOp,e,k,Instr.extract,c]
 ·simp [Zb]at h
end ops
end Tr
end
section
namespace Tr
open Go
def ZP(H:AH)(ow:Nat->Nat->Prop)(ids:List Nat)(b:Nat):Prop:= ∃id∈ids,H id≠Ub/\ow id b
theorem RH.free{B:Z1}{H:AH}{w w' :World}{g:Gh}{ow:Nat->Nat->Prop}(h:RH B H w g ow){b:Nat}(x:∀id,H id≠Ub->¬ow id b)(u:¬g.I b)(s:B.own0 b\/B.w0.heap.size<=b)
 (d:∀k,k≠b->w'.heap[k]? =w.heap[k]?) (e:w'.heap.size=w.heap.size) (q:w'.os=w.os) (f:w'.tape=w.tape) (n:YF w' w):RH B H w' g ow where
 objs:=λk o r=>by have ⟨i,j⟩:=h.objs k o r;exact⟨i,j.mono (λc m=>by grind) (.refl g) i rfl (by grind)⟩
 dist:=h.dist
 sep:=λk c i j=>by rw[e];exact h.sep k c i j
 ilt:=λc m=>by rw[e];exact h.ilt c m
 inew:=h.inew
 os:=q.trans h.os
 tape:=f.trans h.tape
 output:=n.trans h.output
 size:=by rw[e];exact h.size
 kept:=λc i j=>by
  have p:c≠b:=by grind
  rw[d c p];exact h.kept c i j
theorem Xq:∀(b c:KF) (H:AH),Zs H (b++c)=Zs (Zs H b) c
 |[],_,_=>rfl
 |p::b,c,H=>Xq b c (Z0 H p.1 p.2)
theorem RH.drops{B:Z1}{w:World}{g:Gh}{ow:Nat->Nat->Prop}:∀(l:List Nat) {H:AH},RH B H w g ow->RH B (Zs H (l.map λid=>(id,Ub))) w g ow
 |[],_,h=>h
 |id::l,H,h=>by exact RH.drops l (h.drop id)
theorem Rb:∀(l:List Nat) (H:AH) (k:Nat),Zs H (l.map λid=>(id,Ub)) k=if k∈l then Ub else H k
 |[],H,k=>by rfl
 |id::l,H,k=>by
  simp [Vx,Zs];rw[Rb l];by_cases c:k∈l
  ·grind
  ·by_cases b:k=id
   ·subst b;simp [c,XL]
   ·simp [c,b,Ky b]
theorem Zk3{a b:Ty}{x y:El (.prod a b)}{r:Bool}(h:eqEl (.prod a b) x y=Ua r):
 ∃p q,eqEl a x.1 y.1=Ua p/\eqEl b x.2 y.2=Ua q/\r=(p&&q):=by
 cases b with
 |unit=>
  exact⟨r,Uc,h,rfl,by simp⟩
 |_=>
  simp only[eqEl,Via]at h;have ⟨p,c,q,d,e⟩:=h;exact⟨p,q,c,d,by grind⟩
theorem Zk4:∀(t:Ty) (x y:El t),eqEl t x y=Ua Uc->x=y:=by
 intro t
 induction t with
 |int k=>intro x y h;simpa [eqEl] using h
 |bool=>intro x y h;simpa [eqEl] using h
 |str=>intro x y h;simpa [eqEl] using h
 |unit=>simp
 |sl t _=>intro x y h;simp [eqEl]at h
 |ref=>simp
 |pt t _=>intro x y h;simp [eqEl]at h
 |lk a b _ _=>intro x y h;simp [eqEl]at h
 |pn t _=>intro x y h;simp [eqEl]at h
 |prod a b c d=>
  intro x y h;have ⟨p,q,f,i,j⟩:=Zk3 h
  grind
 |arr n t r=>
  intro x y h;simp [eqEl]at h;have key:∀(l m:List (El t)),eqEl.eqs (eqEl t) l m=Ua Uc->l=m:=by
   intro l
   induction l with
   |nil=>intro m h;cases m<;>simp [eqEl.eqs]at h;rfl
   |cons a l e=>
    intro m h
    cases m with
    |nil=>simp [eqEl.eqs]at h
    |cons b m=>
     simp [eqEl.eqs,Via,ZL]at h;grind
  grind
theorem ZsH:∀(t:Ty) (x:El t),t.key=Uc->eqEl t x x=Ua true:=by
 intro t
 induction t with
 |int k=>intro x _;simp [eqEl]
 |bool=>intro x _;simp [eqEl]
 |str=>intro x _;simp [eqEl]
 |unit=>intro x _;rfl
 |sl t _=>intro x h;simp [Ty.key]at h
 |ref=>intro x h;simp [Ty.key]at h
 |pt t _=>intro x h;simp [Ty.key]at h
 |lk a b _ _=>intro x h;simp [Ty.key]at h
 |pn t _=>intro x h;simp [Ty.key]at h
 |prod a b c f=>
  intro x h;simp [Ty.key,Va]at h;have i:=c x.1 h.1
  cases b with
  |unit=>assumption
  |_=>
   show (eqEl a x.1 x.1).bind _=_
   grind
 |arr n t e=>
  intro x h;simp [eqEl];have key:∀l:List (El t),eqEl.eqs (eqEl t) l l=Ua true:=by
   intro l
   induction l with
   |nil=>rfl
   |cons a l d=>simp [eqEl.eqs,e a h,d]
  grind
theorem XD{t:Ty}(c:t.key=Uc){x y:El t}:Zr t x y=Uc↔x=y:=by
 constructor
 ·intro h;unfold Zr at h
  cases b:eqEl t x y with
  |none=>grind
  |some r=>
   rw[b]at h;subst h;exact Zk4 t x y b
 ·rintro rfl;simp [Zr,ZsH t x c]
theorem ZaJ{t:Ty}(h:t.keyOk=Uc):t.key=true:=by simp [Ty.keyOk]at h;grind
def JL{α β:Type}(eq:α->α->Bool)(k:α):List (α×β)->Option Nat
 |[]=>Ub
 |e::l=>bif eq k e.1 then Ua 0 else(JL eq k l).map (· +1)
theorem Zbg{α β:Type}(eq:α->α->Bool)(k:α):∀(l:List (α×β)),ZW eq k l=(JL eq k l).bind λj=>(l[j]?).map Vua
 |[]=>rfl
 |e::l=>by
  simp [ZW,JL]
  cases eq k e.1 with
  |true=>rfl
  |false=>
   simp [Zbg eq k l];cases JL eq k l<;>simp
theorem Zbi{α β:Type}(eq:α->α->Bool)(k:α)(v:β):∀(l:List (α×β)),Kv eq k v l=match JL eq k l with|some j=>l.set j (k,v) |none=>l++[(k,v)]
 |[]=>rfl
 |e::l=>by
  simp [Kv,JL]
  cases eq k e.1 with
  |true=>rfl
  |false=>
   simp [Zbi eq k v l];grind
theorem Zbh{α β:Type}(eq:α->α->Bool)(k:α):∀(l:List (α×β)) (j:Nat),JL eq k l=Ua j->∃e,l[j]? =Ua e/\eq k e.1=Uc
 |[],j,h=>by simp [JL]at h
 |e::l,j,h=>by
  simp [JL]at h
  cases c:eq k e.1 with
  |true=>grind
  |false=>
   rw[c]at h;simp [Ze,Option.map_eq_some_iff]at h;obtain⟨i,b,rfl⟩:=h;have ⟨d,f,m⟩:=Zbh eq k l i b;grind
theorem Zeb{t:Ty}{β:Type}(c:t.key=Uc){k:El t}:∀{l:List (El t×β)}{x:β},ZW (Zr t) k l=Ua x->(k,x)∈l
 |[],_,h=>by simp [ZW]at h
 |e::l,x,h=>by
  simp [ZW]at h
  cases b:Zr t k e.1 with
  |true=>
   have:=(XD c).1 b
   grind
  |false=>rw[b]at h;exact List.mem_cons_of_mem _ (Zeb c h)
theorem Zea{t:Ty}{β:Type}(c:t.key=Uc){k:El t}:∀{l:List (El t×β)},ZW (Zr t) k l=Ub->k ∉ l.map Vg
 |[],_=>by simp
 |e::l,h=>by
  simp [ZW]at h
  cases b:Zr t k e.1 with
  |true=>grind
  |false=>
   rw[b]at h;simp only[Vx,Vma,not_or];exact⟨λd=>by rw[(XD c).2 d]at b;grind,Zea c h⟩
theorem RG{t:Ty}{β:Type}(b:t.key=Uc){k:El t}{v:β}:∀{l:List (El t×β)},(k∈l.map Vg->(Kv (Zr t) k v l).map Vg=l.map Vg)/\(k ∉ l.map Vg->Kv (Zr t) k v l=l++[(k,v)])
 |[]=>by simp [Kv]
 |e::l=>by
  have h:=RG b (k:=k) (v:=v) (l:=l);simp [Kv]
  cases c:Zr t k e.1 with
  |true=>
   have:=(XD b).1 c
   grind
  |false=>
   have f:k≠e.1:=λd=>by rw[(XD b).2 d]at c;grind
   grind
theorem ZgM{t:Ty}{β:Type}(b:t.key=Uc){k:El t}{v:β}{l:List (El t×β)}(c:(l.map Vg).Nodup):((Kv (Zr t) k v l).map Vg).Nodup:=by
 by_cases h:k∈l.map Vg
 ·rw[(RG b).1 h];omega
 ·rw[(RG b).2 h,Vta,Voa];grind
theorem Zfh{t:Ty}{β:Type}(d:t.key=Uc){k c:El t}{v x:β}:∀{l:List (El t×β)},(l.map Vg).Nodup->(c,x)∈Kv (Zr t) k v l->(c=k/\x=v)\/(c≠k/\(c,x)∈l)
 |[],_,h=>by simp [Kv]at h;grind
 |e::l,f,h=>by
  simp [Vx,Vva]at f;simp [Kv]at h
  cases b:Zr t k e.1 with
  |true=>
   have j:=(XD d).1 b
   grind
  |false=>
   rw[b]at h;simp [Ze,Vma]at h;rcases h with h|h
   ·refine .inr ⟨λi=>?_,by grind⟩;rw[<-h]at b;rw[(XD d).2 i.symm]at b;grind
   ·exact(Zfh d f.2 h).imp (λh=>h) λ⟨m,n⟩=>by grind
theorem ZcX{α β:Type}{r:α->β->Prop}:∀{l:List α}{m:List β},l.length=m.length->(∀(n:Nat) a b,l[n]? =Ua a->m[n]? =Ua b->r a b)->Fa r l m
 |[],[],_,_=>trivial
 |a::l,b::m,h,c=>⟨c 0 a b rfl rfl,ZcX (by grind) λn x y d e=>c (n+1) x y d e⟩
theorem JQ{n:Nat}:∀{l:List Nat},KT n l=Uc↔n∈l
 |[]=>by simp [KT]
 |k::l=>by simp only[KT,Bool.or_eq_true,Nat.beq_eq,Vma,JQ]
theorem Zfq:∀{l:List Nat},GD l=Uc↔l.Nodup
 |[]=>by simp [GD]
 |n::l=>by simp only[GD,Va,Vfa,Vva,Zfq];rw[<-JQ,Vsa]
theorem RQ:∀{l m:List Nat},J7 l m=Uc↔∀n∈l,n ∉ m
 |[],m=>by simp [J7]
 |n::l,m=>by simp only[J7,Va,Vfa,List.forall_mem_cons,RQ];rw[<-JQ,Vsa]
theorem HO{b:Bool}{u:Unit}(h:ZD b=Ua u):b=true:=by
 cases b<;>simp [ZD]at h;rfl
theorem ZhH{α β:Type}{r:α->β->Prop}:∀{l:List α}{m:List β},Fa r l m->∀{n:Nat}{a:α}{b:β},l[n]? =Ua a->m[n]? =Ua b->r a b
 |[],[],_,n,a,b,h,_=>by grind
 |_::_,_::_,⟨p,_⟩,0,a,b,h,c=>by grind
 |_::_,_::_,⟨_,q⟩,n+1,a,b,h,c=>ZhH q (by assumption) (by grind)
theorem Zjq{P:Program}{θ:TypeId->Option Ty}{T:TypeId}{t:Ty}(h:Jo P θ T (.sl t))(w:World):(zeroValue T).run P w=.ok (.slice Ub 0 0) w:=by
 have ⟨i,z,d,_,_,e,b,k⟩:=h.info;have f:z.cells.toList=[.slice Ub 0 0]:=by
  unfold Dl at b
  cases c:(Ty.sl t).data with
  |true=>
   rw[c]at b
   match j:z.cells.toList,b with
   |[.slice Ub 0 0],_=>rfl
  |false=>
   rw[c]at b
   match j:z.cells.toList,b with
   |[.slice Ub 0 0],_=>rfl
 have:z=.slice Ub 0 0:=KY f (by assumption);subst this;simp [zeroValue,typeInfo,Vh,run_program,Ve,d,Vj,e]
section
variable {B:Z1}{H:AH}{w:World}{g:Gh}{ow:Nat->Nat->Prop}
theorem Zbu{t b:Ty}{x:List (El t)}{y:El (.sl b)}(h:Kz (.sl t) (.sl b) x=Ua y):∃e:t=b,y=(e▸x:List (El b)):=by have ⟨e,h⟩:=KK h;grind
theorem Zdq{t:Ty}{x:AV}{val:Value}{y:List (El t)}{ids l l' :List Nat}(s:RH B H w g ow)(k:VR w g x val)(h:(JS t x).run H l=Ua ((y,ids),l')):
 (ids=[]/\y=[]/\val=.slice Ub 0 0)\/∃id,ids=[id]/\H id≠Ub/\((y=[]/\val=.slice Ub 0 0)\/∃b cap cs e css,ow id b/\val=.slice (Ua ⟨b,0,Ub⟩) y.length cap/\w.heap[b]? =Ua (.cells cs e (0,0))/\
   y.length<=cap/\cap*t.size<=cs.size/\Fa (Rd w g.I t) y css/\css.flatten<+:cs.toList):=by
 unfold JS at h;split at h
 ·rename_i id;rw[Z3]at h;split at h
  ·rename_i G xs f;simp [ZA,Zj]at h;obtain⟨J,p,⟨rfl,rfl⟩,_⟩:=h;obtain⟨i,rfl⟩:=KK p;cases i;have ⟨_,d⟩:=k.vw;have ⟨_,_,r⟩:=s.objs id _ f;grind
  ·simp [Zb]at h
 ·rename_i id n;rw[Z3]at h;split at h
  ·rename_i G xs f;simp [ZA,Vb]at h;obtain⟨J,p,⟨rfl,rfl⟩,_⟩:=h;obtain⟨i,rfl⟩:=KK p;cases i;have ⟨_,d⟩:=k.vs;have ⟨_,D,r⟩:=s.objs id _ f;refine .inr ⟨id,rfl,by grind,?_⟩;rcases d with ⟨u,_,rfl,d⟩|⟨b,len,cap,m,u,L,M,N,d⟩
   ·grind
   ·rcases r with ⟨_,_,c⟩|⟨K,q,cs,e,css,_,C,c,A,O,Q,j,z⟩
    ·grind
    ·rw[u]at c;obtain⟨rfl,rfl,rfl⟩:=c;refine .inr ⟨b,m,cs,e,css.take n,C,?_,A,?_,?_,j.take n,?_⟩
     ·grind
     ·grind
     ·have:m*t.size<=cap*t.size:=Nat.mul_le_mul_right _ (by omega);omega
     ·refine List.IsPrefix.trans ⟨(css.drop n).flatten,?_⟩ z;rw[<-List.flatten_append,Vy]
  ·simp [Zb]at h
 ·obtain⟨⟨rfl,rfl⟩,_⟩:=h;exact .inl ⟨rfl,rfl,k.nils⟩
 ·simp [Zb]at h
theorem Zfw{t:Ty}{x:AV}{val:Value}{y:List (El t)}{ids l l' :List Nat}(p:RH B H w g ow)(r:VR w g x val)(h:(JS t x).run H l=Ua ((y,ids),l')):WG w g.I (ZP H ow ids) t y val:=by
 rcases Zdq p r h with ⟨_,c,d⟩|⟨id,rfl,i,⟨c,d⟩|⟨b,cap,cs,e,f,q,c,d,j,k,m,n⟩⟩
 ·exact .inl ⟨c,d⟩
 ·exact .inl ⟨c,d⟩
 ·exact .inr ⟨b,cap,cs,e,f,c,⟨id,by simp,i,q⟩,d,j,k,m,n⟩
theorem WG.own{I J:Nat->Prop}{t:Ty}{xs:List (El t)}{d:Value}(h:WG w I J t xs d){b:Nat}(c:WS d=Ua b):J b:=by
 rcases h with ⟨_,rfl⟩|⟨e,_,_,_,_,rfl,f,_⟩
 ·simp [WS]at c
 ·simp [WS]at c;grind
theorem WG.one{I J:Nat->Prop}{t:Ty}{xs:List (El t)}{b:Value}(h:WG w I J t xs b):b.oneCell' =Uc/\Kd b=false:=by
 rcases h with ⟨_,rfl⟩|⟨c,_,_,_,_,rfl,d,_⟩<;>exact⟨rfl,rfl⟩
theorem RF.put{κ:Type}{w' :World}{I J u:Nat->Prop}{t:Ty}{top:Option Nat}{row e:κ->Value}{c A:κ->List (El t)->Prop}{hole:Option κ}(h:RF w I J t top row c hole){k0:κ}{x0:List (El t)}
 (d:∀k,k≠k0->e k=row k) (r:∀k x,A k x->(k=k0/\x=x0)\/(k≠k0/\c k x)) (L:hole=Ub\/hole=Ua k0) (M:WG w' I u t x0 (e k0))
 (q:∀k x,c k x->k≠k0->WG w I J t x (row k)->WG w' I u t x (row k)) (K:∀b,WS (e k0)=Ua b->(∀k x,c k x->k≠k0->WS (row k)≠Ua b)/\top≠Ua b):RF w' I u t top e A none:=by
 have i:∀k,k≠k0->hole≠Ua k:=by grind
 refine⟨λk x p _=>?_,λk s x D b p y z _ _ m n=>?_,λk x b p _ m=>?_⟩
 ·rcases r k x p with ⟨rfl,rfl⟩|⟨f,j⟩
  ·omega
  ·rw[d k f];exact q k x j f (h.rd k x j (i k f))
 ·rcases r k x p with ⟨rfl,rfl⟩|⟨f,j⟩
  ·grind
  ·rw[d k f]at m;rcases r s D y with ⟨rfl,rfl⟩|⟨C,G⟩
   ·grind
   ·rw[d s C]at n;exact h.ds k s x D b j G z (i k f) (i s C) m n
 ·rcases r k x p with ⟨rfl,rfl⟩|⟨f,j⟩
  ·grind
  ·rw[d k f]at m;exact h.tp k x b j (i k f) m
theorem RF.take{κ:Type}{w' :World}{I J n:Nat->Prop}{t:Ty}{top:Option Nat}{row:κ->Value}{c:κ->List (El t)->Prop}(h:RF w I J t top row c Ub)(k0:κ)
 (e:∀k x,c k x->k≠k0->WG w I J t x (row k)->WG w' I n t x (row k)):RF w' I n t top row c (Ua k0):=by
 have m:∀k,Ua k0≠Ua k->k≠k0:=by grind
 exact⟨λk x d p=>e k x d (m k p) (h.rd k x d (by simp)),λk q x r b d i j _ _ f=>h.ds k q x r b d i j (by simp) (by simp) f,λk x b d _ f=>h.tp k x b d (by simp) f⟩
theorem RL.nil{I J:Nat->Prop}{t:Ty}:RL w I J t [] []:=⟨rfl,⟨by simp,by simp,by simp⟩⟩
theorem RL.row{I J:Nat->Prop}{t:Ty}{b:List Value}{xs:List (List (El t))}(h:RL w I J t b xs){i:Nat}{x:List (El t)}(c:xs[i]? =Ua x):WG w I J t x (b.getD i undef):=h.2.rd i x c (by simp)
theorem RL.mono{w' :World}{I d J e:Nat->Prop}{t:Ty}{c:List Value}{xs:List (List (El t))}(m:Kq I w w')(f:∀b,I b->d b)(n:∀b,J b->e b)(p:∀i x b,xs[i]? =Ua x->WS (c.getD i undef)=Ua b->w'.heap[b]? =w.heap[b]?)(h:RL w I J t c xs):RL w' d e t c xs:=
 ⟨h.1,⟨λk x j _=>(h.row j).mono m f (by grind) (by grind),h.2.ds,h.2.tp⟩⟩
theorem RL.single{I J:Nat->Prop}{t:Ty}{v:Value}{x:List (El t)}(h:WG w I J t x v):RL w I J t [v] [x]:=by
 refine⟨rfl,⟨by grind,by grind,by simp⟩⟩
 all_goals grind
theorem RL.append{I z A:Nat->Prop}{t:Ty}{k m:List Value}{xs u:List (List (El t))}(a:RL w I z t k xs)(b:RL w I A t m u)(D:∀c,z c->¬A c):RL w I (λc=>z c\/A c) t (k++m) (xs++u):=by
 have key:∀i x,(xs++u)[i]? =Ua x->(i<xs.length/\xs[i]? =Ua x/\(k++m).getD i undef=k.getD i undef)\/(xs.length<=i/\u[i - xs.length]? =Ua x/\(k++m).getD i undef=m.getD (i - xs.length) undef):=by
  intro i x h;rcases Nat.lt_or_ge i xs.length with s|s
  ·rw[Vga s]at h;exact .inl ⟨s,h,by simp only[Vca];rw[Vga (by rw[a.1];omega)]⟩
  ·rw[Vs s]at h;exact .inr ⟨s,h,by simp only[Vca];rw[Vs (by rw[a.1];omega),a.1]⟩
 refine⟨by simp [a.1,b.1],⟨λi x h _=>?_,λi j x y c h J C _ _ f d=>?_,by simp⟩⟩
 ·rcases key i x h with ⟨_,n,e⟩|⟨_,n,e⟩
  ·rw[e];exact(a.row n).mono (λ_ _=>rfl) (by simp) (by grind) (by simp)
  ·rw[e];exact(b.row n).mono (λ_ _=>rfl) (by simp) (by grind) (by simp)
 ·rcases key i x h with ⟨n,e,p⟩|⟨n,e,p⟩<;>rcases key j y J with ⟨G,q,r⟩|⟨G,q,r⟩
  ·rw[p]at f;rw[r]at d;exact a.2.ds i j x y c e q C (by simp) (by simp) f d
  ·rw[p]at f;rw[r]at d;exact D c ((a.row e).own f) ((b.row q).own d)
  ·rw[p]at f;rw[r]at d;exact D c ((a.row q).own d) ((b.row e).own f)
  ·rw[p]at f;rw[r]at d;exact b.2.ds _ _ x y c e q (by omega) (by simp) (by simp) f d
def Hb(w:World)(I J:Nat->Prop)(c t:Ty)(m:List (El c×List (El t)))(v:Value):Prop:=
 ∃(row:El c->Value) (b:Nat) (es:Array MapEntry) (clock:Nat),v=.map (Ua b)/\J b/\w.heap[b]? =Ua (.map es clock)/\Ix es clock/\RF w I J t (Ua b) row (λk x=>(k,x)∈m) Ub/\(m.map Vg).Nodup/\
  (∀k,k ∉ m.map Vg->row k=.slice Ub 0 0)/\Fa (λkv e=>(Rd w I c kv.1 e.key.cells.toList/\Kd e.key=c.agg)/\e.val=row kv.1) m es.toList
theorem Hb.mono{w' :World}{I i J j:Nat->Prop}{c t:Ty}{m:List (El c×List (El t))}{v:Value}(p:Kq I w w')(k:∀b,I b->i b)(n:∀b,J b->j b)(z:∀b,J b->w'.heap[b]? =w.heap[b]?)(h:Hb w I J c t m v):Hb w' i j c t m v:=by have ⟨row,b,es,clock,q,r,A,d,s,u,x,y⟩:=h;exact⟨row,b,es,clock,q,n b r,by grind,d,s.mono p k n z,u,x,y.mono λkv e f=>⟨⟨Rd.mono p k c _ _ f.1.1,f.1.2⟩,f.2⟩⟩
theorem Xg.of_obj{J:Nat->Prop}{id u:Nat}{t:Ty}{xs:List (List (El t))}(h:ORel w g J id (.rows t xs u Ub)):Xg w g.I J t xs (g.slv id):=by
 have ⟨_,_,d,A⟩:=h;have k:∀i x,xs[i]? =Ua x->((Vt xs.length).map λi:Nat=>g.row id (.int .i64) (i:Int)).getD i undef=g.row id (.int .i64) (i:Int):=by grind
 refine⟨(Vt xs.length).map λi:Nat=>g.row id (.int .i64) (i:Int),⟨by simp,⟨λi x c _=>?_,λi j x y b c n m _ _ f=>?_,by simp⟩⟩,?_⟩
 ·rw[k i x c];exact d.rd i x c (by simp)
 ·rw[k i x c]at f;rw[k j y n];exact d.ds i j x y b c n m (by simp) (by simp) f
 ·rcases A with ⟨D,_,G⟩|⟨b,cap,cs,e,f,p,q,r,s,z,K⟩
  ·grind
  ·refine .inr ⟨b,cap,cs,e,p,λi x c=>?_,q,r,s,z,λi L=>?_⟩
   ·rw[k i x c];intro C;exact d.tp i x b c (by simp) C f
   grind
theorem Hb.of_obj{J:Nat->Prop}{id u:Nat}{d t:Ty}{m:List (El d×List (El t))}(h:ORel w g J id (.mrows d t m u Ub)):∃b,g.blk id=Ua b/\Hb w g.I J d t m (.map (Ua b)):=by have ⟨_,_,r,i,c,b,es,clock,q,k,n,f,p⟩:=h;refine⟨b,q,g.row id d,b,es,clock,rfl,k,n,f,?_,i,c,p.mono λkv e j=>⟨⟨by simpa only[CV] using j.1.1,by simpa [AV.isAgg] using j.1.2⟩,j.2⟩⟩;grind
def R5(c:List Value):(b:Ty)->El b->Value:=λb k=>if h:b=.int .i64 then c.getD ((h▸k:El (.int .i64)):Int).toNat undef else .slice Ub 0 0
theorem ZiP(b:List Value)(i:Nat):R5 b (.int .i64) (i:Int)=b.getD i undef:=by rfl
def rowK{c:Ty}(row:El c->Value):(b:Ty)->El b->Value:=λb k=>if h:b=c then row (h▸k) else .slice Ub 0 0
theorem ZnH{b:Ty}(row:El b->Value)(k:El b):rowK row b k=row k:=by simp [rowK]
theorem Xg.obj{J:Nat->Prop}{t:Ty}{xs:List (List (El t))}{v:Value}(h:Xg w g.I J t xs v)(id:Nat):∃b r,ORel w (g.add id (.sl t) b v r) J id (.rows t xs 0 Ub):=by
 have ⟨k,⟨Q,f⟩,u⟩:=h;have d:∀b,(g.add id (.sl t) b v (R5 k)).row id=R5 k:=λb=>by simp [Gh.add]
 rcases u with ⟨rfl,rfl⟩|⟨b,cap,cs,e,z,M,A,C,D,G,N⟩
 ·refine⟨Ub,R5 k,by simp [Gh.add],by simp [Gh.add],?_,.inl ⟨rfl,by simp [Gh.add],by simp [Gh.add]⟩⟩;exact⟨by simp,by simp,by simp⟩
 ·refine⟨Ua b,R5 k,by simp [Gh.add],by simp [Gh.add],?_,.inr ⟨b,cap,cs,e,by simp [Gh.add],z,by simp [Gh.add,A],C,D,G,λi O=>?_⟩⟩
  ·rw[d];refine⟨λi x m K=>?_,λi j x y c m L s n p q=>?_,λi x c m _ q=>?_⟩
   ·exact f.rd i x m K
   ·exact f.ds i j x y c m L s n p q
   ·rw[ZiP]at q;simp [Gh.add];grind
  ·rw[d,ZiP];grind
theorem Hb.obj{J:Nat->Prop}{d t:Ty}{m:List (El d×List (El t))}{b:Nat}(h:Hb w g.I J d t m (.map (Ua b)))(id:Nat):∃r,ORel w (g.add id (.sl t) (Ua b) undef r) J id (.mrows d t m 0 Ub):=by
 have ⟨row,x,es,clock,j,n,p,f,q,s,y,u⟩:=h;cases j;have c:(g.add id (.sl t) (Ua b) undef (rowK row)).row id d=row:=by funext k;simp [Gh.add,ZnH]
 refine⟨rowK row,by simp [Gh.add],by simp [Gh.add],?_,s,?_,b,es,clock,by simp [Gh.add],n,p,f,?_⟩
 ·rw[c];simpa [Gh.add] using q
 ·grind
 ·rw[c];exact u.mono λkv e i=>⟨⟨by exact i.1.1,.inr (by simpa [AV.isAgg] using i.1.2)⟩,i.2⟩
theorem Zfx{t:Ty}{x:AV}{val:Value}{y:List (List (El t))}{ids l l' :List Nat}(e:RH B H w g ow)(c:VR w g x val)(h:(Yz t x).run H l=Ua ((y,ids),l')):Xg w g.I (ZP H ow ids) t y val/\(ids=[]\/∃id,ids=[id]/\H id≠Ub):=by
 unfold Yz at h;split at h
 ·rename_i id;rw[Z3]at h;split at h
  ·rename_i m xs u d;simp [ZA,Vb]at h;obtain⟨n,k,⟨rfl,rfl⟩,_⟩:=h;obtain⟨i,rfl⟩:=KK k;cases i;have ⟨_,j⟩:=c.vw;rw[j];exact⟨(Xg.of_obj (e.objs id _ d).2).mono (λ_ _=>rfl) (by simp) (λb f=>⟨id,by simp,by grind,f⟩) (by simp),by grind⟩
  ·simp [Zb]at h
 ·obtain⟨⟨rfl,rfl⟩,_⟩:=h;exact⟨⟨[],RL.nil,.inl ⟨rfl,c.nils⟩⟩,.inl rfl⟩
 ·simp [Zb]at h
def Gh.bump(g:Gh)(id v:Nat)(r:(b:Ty)->El b->Value):Gh:=
 {g with ver:=λk=>if k=id then v else g.ver k,row:=λk=>if k=id then r else g.row k}
theorem Gh.le_bump{g:Gh}{id v:Nat}{r:(b:Ty)->El b->Value}(h:g.ver id<v):g.Le (g.bump id v r) where
 I:=λ_ h=>h
 K:=λ_ h=>h
 ty:=λ_ _=>rfl
 blk:=λ_ _=>rfl
 slv:=λ_ _=>rfl
 ver:=λk _=>by show g.ver k<=if k=id then v else g.ver k;grind
 row:=λk _ e=>by have e:(if k=id then v else g.ver k)=g.ver k:=e;show (if k=id then r else g.row k)=g.row k;grind
theorem RH.bump{w' :World}(h:RH B H w g ow){id v:Nat}{r:(O:Ty)->El O->Value}{C:K5}{J:Nat->Prop}(G:g.K id)(N:g.ver id<v)
 (x:∀b,g.I b\/(∃k,k≠id/\H k≠Ub/\ow k b)->w'.heap[b]? =w.heap[b]?) (M:w.heap.size<=w'.heap.size) (y:w'.os=w.os) (j:w'.tape=w.tape) (m:YF w' w)
 (i:∀b,b<B.w0.heap.size->¬B.own0 b->w'.heap[b]? =w.heap[b]?)
 (D:∀b,J b->¬g.I b/\b<w'.heap.size/\(B.own0 b\/B.w0.heap.size<=b)/\∀k,k≠id->H k≠Ub->¬ow k b) (L:ORel w' (g.bump id v r) J id C):RH B (Z0 H id (Ua C)) w' (g.bump id v r) (Xk ow id J) where
 objs:=λk o u=>by
  by_cases c:k=id
  ·subst c;rw[XL]at u;cases u;rw[J4];exact⟨G,L⟩
  ·rw[Ky c]at u;rw[Jd c];obtain⟨f,e⟩:=h.objs k o u;exact⟨f,e.mono (λb z=>by grind) (Gh.le_bump N) f (Zg c) (by grind)⟩
 dist:=λk A b f e n s=>by
  by_cases c:k=id<;>by_cases d:A=id
  ·omega
  ·subst c;rw[Ky d]at e;rw[J4]at n;rw[Jd d]at s;grind
  ·subst d;rw[Ky c]at f;rw[J4]at s;rw[Jd c]at n;grind
  ·rw[Ky c]at f;rw[Ky d]at e;rw[Jd c]at n;rw[Jd d]at s;exact h.dist k A b f e n s
 sep:=λk b f e=>by
  by_cases c:k=id
  ·subst c;rw[J4]at e;obtain⟨p,q,r,_⟩:=D b e;exact⟨p,q,r⟩
  ·rw[Ky c]at f;rw[Jd c]at e;obtain⟨p,q,r⟩:=h.sep k b f e;exact⟨p,by omega,r⟩
 ilt:=λb z=>by have:=h.ilt b z;omega
 inew:=h.inew
 os:=y.trans h.os
 tape:=j.trans h.tape
 output:=m.trans h.output
 size:=by have:=h.size;omega
 kept:=λb f e=>(i b f e).trans (h.kept b f e)
theorem ZnP{I J:Nat->Prop}{t:Ty}{xs:List (El t)}{m:Value}(h:WG w I J t xs m){i:Nat}{x:El t}(y:xs[i]? =Ua x):
 ∃b cap cs e css c,m=.slice (Ua ⟨b,0,Ub⟩) xs.length cap/\J b/\w.heap[b]? =Ua (.cells cs e (0,0))/\xs.length<=cap/\cap*t.size<=cs.size/\
  Fa (Rd w I t) xs css/\css[i]? =Ua c/\Rd w I t x c/\∃r,cs.toList=(css.take i).flatten++c++((css.drop (i+1)).flatten++r)/\(css.take i).flatten.length=i*t.size/\
   ∀j,(css.set i j).flatten++r=(css.take i).flatten++j++((css.drop (i+1)).flatten++r):=by
 rcases h with ⟨rfl,_⟩|⟨b,cap,cs,e,css,p,n,q,s,u,d,r,A⟩
 ·grind
 ·have ⟨c,k,f⟩:=d.get i x y;have ⟨C,z,D⟩:=RT k t.size (Rd.all_length d);exact⟨b,cap,cs,e,css,c,p,n,q,s,u,d,k,f,r,by grind,z,by grind⟩
theorem Zd6(z:RH B H w g ow){id ver:Nat}{p:Ty}{k:El p}(_hK:g.K id){r:(t:Ty)×List (El t)}{l l' :List Nat}(h:(Yo id ver p k).run H l=Ua (r,l')):
 H id≠Ub/\g.ty id=.sl r.1/\g.ver id=ver/\WG w g.I (ow id) r.1 r.2 (g.row id p k):=by
 simp only[Yo]at h;rw[Z3]at h;split at h
 ·rename_i t xs u n;simp only[ZO,ZA,Zb,ZU,Ka]at h;obtain⟨d,i,C,x,s,rfl,_⟩:=h;have d:=Vn d;obtain⟨rfl,rfl⟩:=KK C;obtain⟨_,j,b,c,_⟩:=z.objs id _ n;unfold idx at s;split at s
  ·rename_i G;have J:=c.rd i.toNat x s (by simp);grind
  grind
 ·rename_i D t m u n;simp only[ZO,ZA,Zb,ZU,Ka,Va]at h;obtain⟨⟨d,f⟩,y,q,rfl,_⟩:=h;have d:=Vn d;obtain⟨rfl,rfl⟩:=KK q;obtain⟨_,j,b,c,_,e,_⟩:=z.objs id _ n;rw[n];refine⟨by simp,j,b.trans d,?_⟩
  cases A:ZW (Zr p) y m with
  |none=>exact .inl ⟨rfl,e y (Zea (ZaJ f) A)⟩
  |some x=>exact c.rd y x (Zeb (ZaJ f) A) (by simp)
 ·simp [Zb]at h
theorem Zbd(e:RH B H w g ow){id ver:Nat}{b:Ty}{k:El b}{v:Value}(f:VR w g (.nw id ver b k) v){r:(t:Ty)×List (El t)}{l l' :List Nat}(h:(Yo id ver b k).run H l=Ua (r,l')):
 H id≠Ub/\g.ty id=.sl r.1/\g.ver id=ver/\v=g.row id b k/\WG w g.I (ow id) r.1 r.2 v:=by
 have ⟨d,_,_,c⟩:=f.nw;have ⟨i,j,m,n⟩:=Zd6 e d h;grind
end
end Tr
end
section
namespace Tr
open Go
theorem ZbJ{a:AV}{t:Ty}(h:a.fits t=Uc):a≠ .junk/\∀l,a≠ .tup l:=by
 constructor
 ·rintro rfl;simp [AV.fits]at h
 ·rintro l rfl;simp [AV.fits]at h
theorem ZeW{a:AV}{t:Ty}(h:a.fits t=Uc)(b:a.solid=Uc):a.isAgg=t.agg:=by
 rcases ZsZ h with h|⟨n,rfl⟩
 ·exact h
 ·simp [AV.solid]at b
section ops
variable {P:Program}{E:Z9}{B:Z1}{H:AH}{w:World}{g:Gh}{ow:Nat->Nat->Prop}{nid:Nat}{a:Act}{F:Nat->AV}{v:AV}{patch:KF}{rd:List Nat}{o:Oper}
theorem Zpf{id:Nat}{t:Ty}{b:Nat}{sv:Value}:VR w (g.add id t (Ua b) sv) (.ptr id []) (.pointer (Ua ⟨b,0,Ub⟩)):=by refine KN ?_ rfl rfl;exact⟨.inl rfl,0,t,b,by simp [Gh.add,WR],by simp [Gh.add],rfl⟩
theorem D1(w:World)(o:Obj):(w.alloc o).heap[w.heap.size]? =Ua o:=by show (w.heap.push o)[w.heap.size]? =_;simp
theorem D2{w:World}{o:Obj}{k:Nat}(h:k<w.heap.size):(w.alloc o).heap[k]? =w.heap[k]? :=by show (w.heap.push o)[k]? =_;grind
theorem ZjQ(d:RH B H w g ow)(c:¬g.K nid){t:Ty}{sv:Value}{b:Option Nat}{ob:Obj}{x:AV}{cs:List Value}(h:CV w g x cs):CV (w.alloc ob) (g.add nid t b sv) x cs:=
 CV.mono (λ_ e=>D2 (d.ilt _ e)) (Gh.le_add c _ _ _) x cs h
theorem Zpw(c:RH B H w g ow)(d:∀id,g.K id->id<nid\/nid+Wu<=id){t:Ty}{sv:Value}{b:Option Nat}{ob:Obj}{x:AV}{cs:List Value}(h:CV w g x cs):CV (w.alloc ob) (g.add nid t b sv) x cs:=ZjQ c (YT d) h
theorem Zmv(b:RH B H w g ow)(f:∀id,g.K id->id<nid\/nid+Wu<=id){t:Ty}{T:TypeId}{c:AV}{cells:Array Value}(e:c.fits t=Uc)(d:CV w g c cells.toList){r:Result Next}
 (h:r=.ok (.value (.pointer (Ua ⟨w.heap.size,0,Ub⟩))) (w.alloc (.cells cells T))):Zu B (Z0 H nid (Ua (.var t c))) w g nid (.ptr nid []) r:=by
 refine Zu.new (t:=t) (sv:=undef) b f h ?_ Zpf;refine⟨by simp [Gh.add],e,w.heap.size,cells,T,by simp [Gh.add],rfl,D1 _ _,?_,Zpw b f d⟩;have:=CV.length c t _ e d;omega
theorem ZpS{T:TypeId}(e:Z4 P E)(d:RH B H w g ow)(f:∀id,g.K id->id<nid\/nid+Wu<=id)(c:o.op=.alloc T)(h:(ZS E nid o.op o.type (Zz F)).run H []=Ua ((v,patch),rd)):
 Zu B (Zs H patch) w g nid v ((execOp a.eval o).run P w):=by
 rw[c]at h;simp only[ZS]at h;simp only[ZA,Zj,Vb]at h;obtain⟨t,i,⟨rfl,rfl⟩,_⟩:=h;obtain⟨z,j,b⟩:=(e.ty T t i).run_zerox (E.zx T) w;refine Zmv d f (T:=T) (b w g).2 (b w g).1.1 ?_;simp only[execOp,c,Instr.alloc,Vh,j,Ve,newVar,newRow,run_newObj,Vj];rfl
theorem ZpW{T:TypeId}{x:Operand}(d:RH B H w g ow)(hF:Fr w g F a.tmps)(e:∀id,g.K id->id<nid\/nid+Wu<=id)(c:o.op=.box T x)
 (h:(ZS E nid o.op o.type (Zz F)).run H []=Ua ((v,patch),rd)):Zu B (Zs H patch) w g nid v ((execOp a.eval o).run P w):=by
 rw[c]at h;simp only[ZS,ZA,ZO,Zj,Zb,ZU,Ka,Vb]at h;obtain⟨t,i,b,⟨rfl,rfl⟩,_⟩:=h;have f:=(hF.eval x).to1 (ZbJ b).2;refine Zmv d e (T:=T) b f.1 ?_;simp only[execOp,c,Instr.box,Vh,Ve,newVar,newRow,run_newObj,Vj];rfl
theorem ZoN{t:Ty}{xs:List (El t)}{id:Nat}{J:Nat->Prop}(h:ORel w g J id (.vec t xs)){i:Nat}{x:El t}(m:xs[i]? =Ua x):
 ∃b cap cs e css c,g.ty id=t/\g.blk id=Ua b/\J b/\g.slv id=.slice (Ua ⟨b,0,Ub⟩) xs.length cap/\w.heap[b]? =Ua (.cells cs e (0,0))/\xs.length<=cap/\cap*t.size<=cs.size/\
  Fa (Rd w g.I t) xs css/\css[i]? =Ua c/\Rd w g.I t x c/\∃r,cs.toList=(css.take i).flatten++c++((css.drop (i+1)).flatten++r)/\(css.take i).flatten.length=i*t.size/\
   ∀d,(css.set i d).flatten++r=(css.take i).flatten++d++((css.drop (i+1)).flatten++r):=by
 have ⟨k,h⟩:=h;rcases h with ⟨rfl,_⟩|⟨b,cap,cs,e,css,p,q,s,u,y,z,f,r,A⟩
 ·grind
 ·have ⟨c,j,n⟩:=f.get i x m;have ⟨C,D,G⟩:=RT j t.size (Rd.all_length f);grind
theorem _root_.Tr.ORel.fndVar{w:World}{g:Gh}{J:Nat->Prop}{id:Nat}{tn tq lt lb:Ty}{x:ZQ tn tq lt lb}(h:ORel w g J id (.fnd tn tq lt lb x)):ORel w g J id (.var (g.ty id) (Ze1 tn tq lt x)):=by
 obtain⟨f,b,z,A,N,K,L,M,_,_,_,_,cells,e,u,y,c3,s,n,i,C,p,q,r,c,j,k,m⟩:=h;have d:(g.ty id).size=tn.size+(tq.size+(lt.size+3))/\(Ze1 tn tq lt x).fits (g.ty id)=true:=by
  rcases f with f|f
  all_goals rw[f];exact⟨by simp [Jk,Ye,Ty.size],by simp [Ze1,Jk,Ye,AV.fits,Zo.fits,Ty.size]⟩
 refine⟨rfl,d.2,b,cells,e,z,A,C,?_,?_⟩
 ·have:=congrArg List.length p;simp only[Vo,Vi,List.length_cons,List.length_nil,Rd.length _ _ _ q,Rd.length _ _ _ r,Rd.length _ _ _ c]at this;rw[this,d.1]
 ·rw[p];have D:s.oneCell' =true:=by
   obtain⟨O,_,h|⟨b,cap,cs,e,_,_,h,_⟩⟩:=j
   ·rw[h.2];rfl
   ·rw[h];rfl
  have G:n.oneCell' =true:=by
   rcases k with h|⟨b,off,cap,cs,e,_,h,_⟩
   ·rw[h.2];rfl
   ·rw[h];rfl
  have I:i.oneCell' =true:=by
   rcases m with h|⟨b,cap,cs,e,_,h,_⟩
   ·rw[h.2];rfl
   ·rw[h];rfl
  exact⟨u,_,rfl,q,y,_,rfl,r,c3,_,rfl,c,[s],[n,i],rfl,⟨rfl,by simpa using D⟩,[n],[i],rfl,⟨rfl,by simpa using G⟩,[i],[],rfl,⟨rfl,by simpa using I⟩,rfl⟩
theorem Zj0{T:TypeId}{x:Operand}(hT:Z4 P E)(W:RH B H w g ow)(hF:Fr w g F a.tmps)(ho:o.op=.load T x)
 (h:(ZS E nid o.op o.type (Zz F)).run H []=Ua ((v,patch),rd)):Zu B (Zs H patch) w g nid v ((execOp a.eval o).run P w):=by
 rw[ho]at h;simp only[ZS,ZA]at h;obtain⟨t,ht,h⟩:=h;have Y:=hF.eval x;have fin:∀{b off:Nat}{c:List Value},a.eval x=.pointer (Ua ⟨b,off,Ub⟩)->Y7 w b off c->CV w g v c->v.fits t=Uc->v.solid=Uc->patch=[]->Zu B (Zs H patch) w g nid v ((execOp a.eval o).run P w):=by intro b off c he hc a2 S hs hp;subst hp;obtain⟨q,V⟩:=Zcv a2 S (ZeW S hs);refine Zu.pure W ?_ (VR.of1 q);simp only[execOp,ho,he,Instr.loadAt,Vv,Vh,Vj,Ve,ZiU (hT.ty T t ht) hc (CV.length v t c S a2) V]
 split at h
 ·rename_i t' y L;simp only[ZO,Zj,Zb,ZU,Ka,Ki,Vb]at h;obtain⟨rfl,⟨rfl,rfl⟩,_⟩:=h;obtain⟨b,off,c,q,V,n,I⟩:=(L▸Y).dp;exact fin q n.at (by assumption) (by simp [AV.fits]) rfl rfl
 ·rename_i id p L;rw[Z3]at h;split at h
  ·rename_i t0 c R;simp only[Z2,ZO,Zj,Zb,ZU,Ka,Vb,Va]at h;obtain⟨v',m,q,⟨V,Q⟩,⟨rfl,rfl⟩,_⟩:=h;obtain⟨X,o',t1,b,n,I,K⟩:=(L▸Y).ptr;obtain⟨_,d,S,b',cs,e,J,Z,h8,h9,O⟩:=W.objs id _ R;obtain⟨_,t2,N,⟨o2,pre,post,f,z,A⟩,a5,C⟩:=Ze3 q S O;rw[d,f]at n;obtain⟨rfl,rfl⟩:=Vf (KO n);rw[I]at J;cases J;refine fin K ?_ C V Q rfl;rw[<-A];exact Y7.of_heap h8 z
  ·rename_i tn tq lt lb c R;simp only[Z2,ZO,Zj,Zb,ZU,Ka,Vb,Va]at h;obtain⟨v',m,q,⟨V,Q⟩,⟨rfl,rfl⟩,_⟩:=h;obtain⟨X,o',t1,b,n,I,K⟩:=(L▸Y).ptr;obtain⟨d,S,b',cs,e,J,Z,h8,h9,O⟩:=ORel.fndVar (W.objs id _ R).2;obtain⟨_,t2,N,⟨o2,pre,post,f,z,A⟩,a5,C⟩:=Ze3 q S O;rw[f]at n;obtain⟨rfl,rfl⟩:=Vf (KO n);rw[I]at J;cases J;refine fin K ?_ C V Q rfl;rw[<-A];exact Y7.of_heap h8 z
  ·simp [Zb]at h
 ·rename_i id i p L;rw[Z3]at h;split at h
  ·rename_i t0 xs R;simp only[ZA,Z2,ZO,Zj,Zb,ZU,Ka,Ki,Vb]at h;obtain⟨x',G,y,m,q,rfl,⟨rfl,rfl⟩,_⟩:=h;obtain⟨X,o',t1,b,n,I,K⟩:=(L▸Y).vp;obtain⟨_,hO⟩:=W.objs id _ R;obtain⟨b',cap,cs,e,s,c,d,hb,hJ,a9,hh,hl,M,a7,a6,U,r,a1,a3,_⟩:=ZoN hO G;obtain⟨_,N,⟨o2,pre,post,f,z,A⟩,C⟩:=Ze5 p t0 x' _ _ y c q U;rw[d,f]at n;obtain⟨rfl,rfl⟩:=Vf (KO n);rw[I]at hb;cases hb;refine fin K (c:=N) ?_ (by assumption) (by simp [AV.fits]) rfl rfl;have:cs.toList=((s.take i).flatten++pre)++N++(post++((s.drop (i+1)).flatten++r)):=by grind
   have:=Y7.of_heap hh this;grind
  ·rename_i t0 xs u R;simp only[ZA,ZO,Zj,Zb,ZU,Ka,Ki,Vb,Va,Vr]at h;obtain⟨⟨rfl,rfl⟩,x',G,⟨rfl,rfl⟩,_⟩:=h;obtain⟨X,o',t1,b,n,I,K⟩:=(L▸Y).vp;rw[WR]at n;obtain⟨rfl,rfl⟩:=Vf (KO n);obtain⟨_,d,D,a8,hO⟩:=W.objs id _ R;rcases hO with ⟨rfl,_⟩|⟨b',cap,cs,e,hb,hJ,a9,hh,hl,M,a1⟩
   ·grind
   ·rw[I]at hb;cases hb;have q:=a8.rd i x' G (by simp);refine fin K (c:=[g.row id (.int .i64) (i:Int)]) ?_ ?_ rfl rfl rfl
    ·rw[d];intro j v hj
     cases j with
     |zero=>
      simp only[List.getElem?_cons_zero,ZL]at hj;subst hj;simp only[Ty.size,Nat.mul_one,Nat.add_zero,Vw,hh]
      grind
     |succ j=>grind
    ·simp only[CV];exact⟨X,Nat.le_of_eq D.symm,_,rfl,q.one.1,λ_=>rfl⟩
  ·simp [Zb]at h
 ·rename_i id ver kt k i p L;simp only[ZA,Z2,ZO,Zj,Zb,ZU,Ka,Ki,Vb]at h;obtain⟨r,m1,a0,x',G,y,m,q,rfl,⟨rfl,rfl⟩,_⟩:=h;obtain⟨X,hv,ad,n,I⟩:=(L▸Y).np;obtain⟨b1,d,D,a4⟩:=Zd6 W X a0;obtain⟨b,len,cap,o',t1,K,J,Z⟩:=I D;obtain⟨b',b0,cs,e,s,c,hd,hJ,hh,hl,M,a7,a6,U,r',a1,a3,_⟩:=ZnP a4 G;rw[K]at hd;obtain⟨rfl,_,_⟩:=hd;obtain⟨_,N,⟨o2,pre,post,f,z,A⟩,C⟩:=Ze5 p r.1 x' _ _ y c q U;rw[d]at J Z;simp only[Re]at J Z;rw[f]at J;obtain⟨rfl,rfl⟩:=Vf (KO J);subst Z;refine fin n (c:=N) ?_ (by assumption) (by simp [AV.fits]) rfl rfl;have:cs.toList=((s.take i).flatten++pre)++N++(post++((s.drop (i+1)).flatten++r')):=by grind
  have:=Y7.of_heap hh this;grind
 ·simp [Zb]at h
theorem ZdA{T:TypeId}{t:Ty}(k:Jo P E.ty T t){b:Nat}{cs:Array Value}{e:TypeId}{pre c post d:List Value}{val:Value}(n:w.heap[b]? =Ua (.cells cs e (0,0)))
 (h:cs.toList=pre++c++post) (m:val.cells.toList=d) (q:c.length=d.length) (p:d.length=t.size) (j:∀v∈d,v.oneCell' =Uc):
 (storeVar T ⟨b,pre.length,Ub⟩ val).run P w=.ok () (w.setRow b (pre++d++post).toArray):=by
 have f:val.cells.size=t.size:=by grind
 have i:cs.size=pre.length+c.length+post.length:=by rw[<-Vo,h];grind
 simp [storeVar,Vh,k.run_sizeOf,Ve,f,ne_eq,not_true_eq_false,if_false,m];rw[run_storeCells_at P b pre.length e d 0 cs w n (by omega) j];grind
theorem R7{b:Nat}{cs cs' :Array Value}{e:TypeId}(c:w.heap[b]? =Ua (.cells cs e (0,0))):(w.setRow b cs').heap[b]? =Ua (.cells cs' e (0,0)):=setRow_heap w b cs cs' e (0,0) c
theorem Zu.write{id b:Nat}{h:K5}{cs' :Array Value}{r:Result Next}(d:RH B H w g ow)(c:H id≠Ub)(e:ow id b)(j:r=.ok .skip (w.setRow b cs'))
 (i:ORel (w.setRow b cs') g (ow id) id h):Zu B (Z0 H id (Ua h)) w g nid .junk r:=by
 have m:=d.sep id b c e;refine⟨undef,w.setRow b cs',g,ow,by grind,d.write c e (λk f=>setRow_other w b k cs' f) (by simp) rfl rfl ⟨rfl,Vm _⟩ i,.refl g,?_,HH,by grind⟩;intro k f;exact setRow_other w b k cs' (by grind)
theorem Zd8{id b:Nat}{cs' :Array Value}(d:RH B H w g ow)(c:H id≠Ub)(f:ow id b):Kq g.I w (w.setRow b cs'):=λk h=>
 setRow_other w b k cs' (λe=>(d.sep id b c f).1 (e▸h))
theorem ZwQ{t0:Ty}{xs:List (List (El t0))}{u:Nat}{hole:Option Nat}{id i:Nat}{y:AV}{val:Value}{ys:List (El t0)}{ids l l' :List Nat}{x' :List (El t0)}{r:Result Next}(A:RH B H w g ow)(hH:H id=Ua (.rows t0 xs u hole))
 (S:RW hole i=Uc) (hu:u<nid) (b4:xs[i]? =Ua x') (L:VR w g y val) (z:(JS t0 y).run H l=Ua ((ys,ids),l'))
 (Y:∀b cap cs e,g.blk id=Ua b->g.slv id=.slice (Ua ⟨b,0,Ub⟩) xs.length cap->w.heap[b]? =Ua (.cells cs e (0,0))->i<cs.size->r=.ok .skip (w.setRow b (cs.toList.set i val).toArray)):
 Zu B (Zs H (ids.map (λid=>(id,Ub))++[(id,Ua (.rows t0 (xs.set i ys) nid Ub))])) w g nid .junk r:=by
 have G:=Zfw A L z;obtain⟨hK,a8,b0,O,hO⟩:=A.objs id _ hH;have s:∀k,Zs H (ids.map λid=>(id,Ub)) k≠Ub->k ∉ ids/\H k≠none:=by intro k J;rw[Rb]at J;grind
 have U:id ∉ ids:=λhm=>by
  rcases Zdq A L z with ⟨rfl,_⟩|⟨b5,rfl,_,_⟩
  ·grind
  ·simp only[List.mem_singleton]at hm;subst hm;unfold JS at z;split at z
   ·rename_i k;rw[Z3]at z;split at z
    ·rename_i a2;simp only[ZA,Zj,Vb,Xx,and_true]at z;grind
    ·simp [Zb]at z
   ·rename_i k n;rw[Z3]at z;split at z
    ·rename_i a2;simp only[ZA,Zj,Vb,Xx,and_true]at z;grind
    ·simp [Zb]at z
   ·simp only[Zj,Vb]at z;grind
   ·simp [Zb]at z
 rcases hO with ⟨rfl,_⟩|⟨b,cap,cs,e,hb,hJ,a7,hh,hl,a9,b1⟩
 ·grind
 ·have b2:i<xs.length:=by grind
  have C:H id≠none:=by grind
  have Y:=Y b cap cs e hb a7 hh (by omega);have b3:=A.sep id b C hJ;have a0:RH B (Zs H (ids.map λid=>(id,Ub))) w g ow:=A.drops ids;rw[Xq];have m:∀k,k≠b->(w.setRow b (cs.toList.set i val).toArray).heap[k]? =w.heap[k]? :=λk J=>setRow_other w b k _ J;have N:Kq g.I w (w.setRow b (cs.toList.set i val).toArray):=λk J=>by grind
  have a5:∀d,WS val=Ua d->ZP H ow ids d:=λd c=>G.own c;have a3:∀d,ZP H ow ids d->d≠b/\ ¬ow id d:=λd ⟨k,Q,M,W⟩=>by have K:¬ow id d:=λR=>U (A.dist id k d C M R W▸Q);grind
  let f:(V:Ty)->El V->Value:=λV k=>if h:V=.int .i64 then(if (h▸k:El (.int .i64))=(i:Int) then val else g.row id V k) else g.row id V k
  have a6:∀j:Nat,j≠i->f (.int .i64) (j:Int)=g.row id (.int .i64) (j:Int):=by grind
  have D:f (.int .i64) (i:Int)=val:=by grind
  refine⟨undef,w.setRow b (cs.toList.set i val).toArray,g.bump id nid f,Xk ow id (λd=>ow id d\/ZP H ow ids d),by grind,?_,Gh.le_bump (by omega),N,HH,λ_ h=>.inl h⟩;refine a0.bump (id:=id) (v:=nid) hK (by omega) (λd c=>?_) (by simp) rfl rfl ⟨rfl,Vm _⟩ (λd Q M=>m d λe=>?_) (λd c=>?_) ?_
  ·rcases c with c|⟨k,J,Q,M⟩
   ·grind
   ·refine m d λe=>J ?_;subst e;exact(A.dist id k d C (s k Q).2 hJ M).symm
  ·grind
  ·rw[size_setRow];rcases c with c|⟨k,Q,M,W⟩
   ·obtain⟨p,q,r⟩:=A.sep id d C c;exact⟨p,q,r,λk J R h5=>J (A.dist k id d (s k R).2 C h5 c)⟩
   ·obtain⟨p,q,r⟩:=A.sep k d M W;refine⟨p,q,r,λk' J R h5=>(s k' R).1 ?_⟩;have:=A.dist k' k d (by grind) M h5 W;grind
  ·refine⟨a8,Zn rfl,?_,.inr ⟨b,cap,(cs.toList.set i val).toArray,e,hb,.inl hJ,by show g.slv id=_;grind,setRow_heap w b cs _ e (0,0) hh,by grind,by grind,λj X=>?_⟩⟩
   ·show RF _ g.I _ t0 (g.blk id) (λj:Nat=>(if id=id then f else g.row id) (.int .i64) (j:Int)) _ Ub;rw[Zn rfl];refine O.put (k0:=i) (x0:=ys) (by omega) (λj x Z=>?_) ?_ ?_ (λj x Z X Y=>?_) λd c=>?_
    ·grind
    ·cases hole with
     |none=>simp
     |some j=>exact .inr (by rw[Vn S])
    ·rw[D];exact G.mono N (by simp) (by grind) (by grind)
    ·refine Y.mono N (by simp) (by grind) λd c h=>m d λe=>?_;have K:hole≠Ua j:=λe=>by rw[e]at S;exact X (Vn S)
     exact O.tp j x d Z K c (e▸hb)
    ·have c:WS (f (.int .i64) (i:Int))=Ua d:=c;rw[D]at c;have a4:=a3 d (a5 d c);refine⟨λj x Z X a1=>a4.2 ?_,by grind⟩;have K:hole≠Ua j:=λe=>by rw[e]at S;exact X (Vn S)
     exact(O.rd j x Z K).own a1
   ·show _=Ua ((if id=id then f else g.row id) (.int .i64) (j:Int));rw[Zn rfl];simp only[List.getElem?_toArray,List.getElem?_set];grind
theorem Zwt{w' :World}{id ver:Nat}{G:Ty}{k:El G}{r:(t:Ty)×List (El t)}{row:List (El r.1)}{o' :K5}{l l' l2 b1:List Nat}{b i:Nat}(hR:RH B H w g ow)(c:(Yo id ver G k).run H l=Ua (r,l'))
 (f:(ZgD id G k r.1 row).run H l2=Ua (o',b1)) (U:WS (g.row id G k)=Ua b) (b6:i<r.2.length) (K:WG w' g.I (ow id) r.1 row (g.row id G k)) (n:∀k,k≠b->w'.heap[k]? =w.heap[k]?):ORel w' g (ow id) id o' :=by
 have Q:H id≠none:=by
  simp only[Yo]at c;rw[Z3]at c;split at c
  ·grind
  ·grind
  ·simp [Zb]at c
 have a9:ow id b:=K.own U;have M:Kq g.I w w' :=λk hk=>n k λe=>(hR.sep id b Q a9).1 (e▸hk);simp only[Yo]at c;rw[Z3]at c;simp only[ZgD]at f;rw[Z3]at f;split at c
 ·rename_i t xs u W;rw[W]at f;simp only[ZO,ZA,Zj,Zb,ZU,Ka]at c f;obtain⟨hu,i',a2,x,p,rfl,_⟩:=c;obtain⟨S,a3,y,hy,rfl,_⟩:=f;obtain⟨rfl,rfl⟩:=KK a2;have:=Zep a3;subst this;obtain⟨_,rfl⟩:=Zbu hy;obtain⟨_,R,A,h,hO⟩:=hR.objs id _ W;unfold idx at p;split at p
  ·rename_i h0;have D:=p;have e1:((S.toNat:Nat):Int)=S:=Int.toNat_of_nonneg h0;refine⟨R,A,h.put (k0:=S.toNat) (x0:=y) (by simp) (λj x p=>?_) (.inl rfl) (by grind) (λj x p O hr=>?_) (λJ q=>?_),?_⟩
   ·grind
   ·refine hr.mono M (by simp) (by simp) λJ q _=>n J λe=>?_;subst e;exact h.ds j S.toNat x _ J p D O (by simp) (by simp) q (by grind)
   ·simp only[e1]at q;rw[U]at q;cases q;exact⟨λj x p O N=>h.ds j S.toNat x _ b p D O (by simp) (by simp) N (by grind),h.tp S.toNat _ b D (by simp) (by grind)⟩
   ·rcases hO with ⟨rfl,_⟩|⟨J,cap,cs,e,Z,h2,h3,h4,h5,h6,h7⟩
    ·grind
    ·refine .inr ⟨J,cap,cs,e,Z,h2,by grind,(n J λe=>?_).trans h4,by grind,h6,by grind⟩;exact h.tp S.toNat _ b D (by simp) (by grind) (e▸Z)
  grind
 ·rename_i b7 t m u W;rw[W]at f;simp only[ZO,ZA,Zj,Zb,ZU,Ka,Va]at c f;obtain⟨⟨hu,a8⟩,k',a5,rfl,_⟩:=c;obtain⟨L,a6,y,hy,rfl,_⟩:=f;obtain⟨rfl,rfl⟩:=KK a5;have:=Zep a6;subst this;obtain⟨_,rfl⟩:=Zbu hy;obtain⟨_,R,A,h,Y,b3,J,es,clock,Z,h2,h3,h4⟩:=hR.objs id _ W;have s:=ZaJ a8
  cases hg:ZW (Zr G) L m with
  |none=>grind
  |some x0=>
   have z:=Zeb s hg;have a4:L∈m.map Vg:=by grind
   have a7:=(RG s (v:=y)).1 a4;have b0:=h.tp L x0 b z (by simp) U;refine⟨R,A,h.put (k0:=L) (x0:=y) (by simp) (λj x p=>Zfh s Y p) (.inl rfl) K (λj x p O hr=>?_) (λb2 C=>?_),ZgM s Y,by grind,J,es,clock,Z,h2,by grind,h4.1,?_⟩
   ·refine hr.mono M (by simp) (by simp) λb2 C _=>n b2 λe=>?_;subst e;exact h.ds j L x _ b2 p z O (by simp) (by simp) C U
   ·rw[U]at C;cases C;exact⟨λj x p O N=>h.ds j L x _ b p z O (by simp) (by simp) N U,b0⟩
   ·rw[Zbi];have V:=h4.2.mono λkv e p=>(⟨p.1.mono M (.refl g),p.2⟩:Ku w' g (.d G kv.1) e.key/\e.val=g.row id G kv.1)
    cases X:JL (Zr G) L m with
    |none=>
     rw[Zbg,X]at hg;grind
    |some j=>
     simp only;obtain⟨e1,a0,a1⟩:=Zbh _ _ _ _ X;obtain⟨en,b5,hp⟩:=V.get j e1 a0;have b4:=(XD s).1 a1;have:=V.set j (a:=(L,y)) (b:=en) (by grind);have e5:es.toList.set j en=es.toList:=by apply List.ext_getElem?;grind
     grind
 ·simp [Zb]at c
theorem Zql{T:TypeId}{x y:Operand}(hT:Z4 P E)(C:RH B H w g ow)(hF:Fr w g F a.tmps)(ho:o.op=.store T x y)
 (h:(ZS E nid o.op o.type (Zz F)).run H []=Ua ((v,patch),rd)):Zu B (Zs H patch) w g nid v ((execOp a.eval o).run P w):=by
 rw[ho]at h;simp only[ZS,ZA,ZO,Zb,ZU,Ka]at h;obtain⟨t,ht,hf,h⟩:=h;have hx:=hF.eval x;have hy:=(hF.eval y).to1 (ZbJ hf).2;have Q:=CV.oneCell _ _ (ZbJ hf).1 hy.1 t hf;have O:=CV.length _ t _ hf hy.1;split at h
 ·rename_i id p D;rw[Z3]at h;split at h
  ·rename_i t0 c hH;simp only[Z2,Zj,Vb]at h;obtain⟨c',m,h1,⟨rfl,rfl⟩,_⟩:=h;obtain⟨hk,o',t1,b,R,S,W⟩:=(D▸hx).ptr;obtain⟨_,q,b5,b',cs,e,h6,h7,h8,h9,b1⟩:=C.objs id _ hH;obtain⟨_,o2,pre,c1,post,t2,⟨G,A,J,K⟩,L,b2⟩:=Zn3 h1 b5 b1 hy.1 (by omega);rw[q,G]at R;obtain⟨rfl,rfl⟩:=Vf (KO R);rw[S]at h6;cases h6;subst J;have j:=Zd8 (cs' :=(pre++(a.eval y).cells.toList++post).toArray) C (by grind) h7;refine Zu.write C (by grind) h7 (cs' :=(pre++(a.eval y).cells.toList++post).toArray) ?_ ?_
   ·simp only[execOp,ho,W,Vha,Vv,Vh,Vj,Ve,ZdA (hT.ty T t ht) h8 A rfl K O Q]
   ·refine⟨q,L,b,_,e,S,h7,R7 h8,?_,?_⟩
    ·have:cs.size=pre.length+c1.length+post.length:=by rw[<-Vo,A];grind
     grind
    ·simpa using CV.mono j (.refl g) _ _ b2
  ·simp [Zb]at h
 ·rename_i id i p D;rw[Z3]at h;split at h
  ·rename_i t0 xs hH;simp only[ZA,Z2,Zj,Vb]at h;obtain⟨e0,V,dv,M,e',m,h1,⟨rfl,rfl⟩,_⟩:=h;have a0:Zz F y=.d dv.1 dv.2:=by
    cases N:Zz F y<;>rw[N]at M<;>simp [AV.dv?]at M
    grind
   rw[a0]at hy hf;obtain⟨hk,o',t1,b,R,S,W⟩:=(D▸hx).vp;obtain⟨_,hO⟩:=C.objs id _ hH;obtain⟨b',cap,cs,e,f,c,q,hb,hJ,b8,N,hl,a6,a1,b3,a4,r,b4,a3,Z⟩:=ZoN hO V;obtain⟨_,o2,pre,c1,post,G,A,J,K,L⟩:=ZfM p t0 e0 _ _ dv e' c _ h1 a4 (by simpa only[CV] using hy.1);rw[q,G]at R;obtain⟨rfl,rfl⟩:=Vf (KO R);rw[S]at hb;cases hb;subst J;have n:cs.toList=((f.take i).flatten++pre)++c1++(post++((f.drop (i+1)).flatten++r)):=by grind
   have j:=Zd8 (cs' :=(((f.take i).flatten++pre)++(a.eval y).cells.toList++(post++((f.drop (i+1)).flatten++r))).toArray) C (by grind) hJ;refine Zu.write C (by grind) hJ (cs' :=(((f.take i).flatten++pre)++(a.eval y).cells.toList++(post++((f.drop (i+1)).flatten++r))).toArray) ?_ ?_
   ·have s:i* (g.ty id).size+pre.length=((f.take i).flatten++pre).length:=by grind
    simp only[execOp,ho,W,Vha,Vv,Vh,Vj,Ve,s,ZdA (hT.ty T t ht) N n rfl K O Q]
   ·have a2:(f.set i (pre++(a.eval y).cells.toList++post)).flatten++r=((f.take i).flatten++pre)++(a.eval y).cells.toList++(post++((f.drop (i+1)).flatten++r)):=by grind
    refine⟨q,.inr ⟨b,cap,_,e,f.set i (pre++(a.eval y).cells.toList++post),S,hJ,by grind,R7 N,by grind,?_,?_,r,?_⟩⟩
    ·have:cs.size=((f.take i).flatten++pre).length+c1.length+(post++((f.drop (i+1)).flatten++r)).length:=by rw[<-Vo,n];grind
     grind
    ·exact(a1.set i L).mono λx c hx=>Rd.mono j (by simp) t0 x c hx
    omega
  ·rename_i t0 xs u c4 hH;simp only[ZA,ZO,Z2,Zj,Zb,ZU,Ka,Ki,Vb,Va,Vr]at h;obtain⟨⟨⟨rfl,rfl⟩,b6⟩,uu,z,x',b9,⟨ys,ids⟩,m,Y,⟨rfl,rfl⟩,_⟩:=h;have z:=HO z;obtain⟨hk,o',t1,b,R,S,W⟩:=(D▸hx).vp;rw[WR]at R;obtain⟨rfl,rfl⟩:=Vf (KO R);refine ZwQ C hH z (Vka b6) b9 (hF.eval y) Y λb' cap cs e hb b8 N hi=>?_;rw[S]at hb;cases hb;obtain⟨_,q,_⟩:=C.objs id _ hH;have j:Kd (a.eval y)=false:=(Zfw C (hF.eval y) Y).one.2;have U:(a.eval y).cells.toList=[a.eval y]:=by
    cases hv:a.eval y<;>rw[hv]at j<;>simp [Kd]at j<;>rfl
   have hl:i<cs.toList.length:=by omega
   have A:cs.toList=cs.toList.take i++[cs.toList[i]]++cs.toList.drop (i+1):=by rw[Vqa,List.singleton_append,<-Vea hl,Vy]
   have c5:(cs.toList.take i).length=i:=by grind
   have a5:i* (g.ty id).size+0=(cs.toList.take i).length:=by grind
   have:=ZdA (hT.ty T _ ht) N A (d:=[a.eval y]) U rfl rfl (by grind);simp only[execOp,ho,W,Vha,Vv,Vh,Vj,Ve,a5,this];grind
  ·simp [Zb]at h
 ·rename_i id ver kt k i p D;simp only[ZA,Z2,Zj,Vb]at h;obtain⟨r,m1,X,e0,V,dv,M,e',m2,h1,o',m3,Z,⟨rfl,rfl⟩,_⟩:=h;have a0:Zz F y=.d dv.1 dv.2:=by
   cases N:Zz F y<;>rw[N]at M<;>simp [AV.dv?]at M
   grind
  rw[a0]at hy hf;obtain⟨hk,hv,ad,R,S⟩:=(D▸hx).np;obtain⟨a7,q,b0,a9⟩:=Zd6 C hk X;obtain⟨b,len,cap,o2,t1,W,h6,h7⟩:=S b0;obtain⟨b',c2,cs,e,f,c,hd,hJ,N,hl,a6,a1,b3,a4,r',b4,a3,b7⟩:=ZnP a9 V;rw[W]at hd;simp only[Vbb.injEq,ZL,Addr.mk.injEq,and_true]at hd;obtain⟨rfl,rfl,rfl⟩:=hd;obtain⟨_,o3,pre,c1,post,G,A,J,K,L⟩:=ZfM p r.1 e0 _ _ dv e' c _ h1 a4 (by simpa only[CV] using hy.1);rw[q]at h6 h7;simp only[Re]at h6 h7;rw[G]at h6;obtain⟨rfl,rfl⟩:=Vf (KO h6);subst J;subst h7;have n:cs.toList=((f.take i).flatten++pre)++c1++(post++((f.drop (i+1)).flatten++r')):=by grind
  have j:=Zd8 (cs' :=(((f.take i).flatten++pre)++(a.eval y).cells.toList++(post++((f.drop (i+1)).flatten++r'))).toArray) C a7 hJ;have a2:(f.set i (pre++(a.eval y).cells.toList++post)).flatten++r' =((f.take i).flatten++pre)++(a.eval y).cells.toList++(post++((f.drop (i+1)).flatten++r')):=by grind
  have a8:WG (w.setRow b (((f.take i).flatten++pre)++(a.eval y).cells.toList++(post++((f.drop (i+1)).flatten++r'))).toArray) g.I (ow id) r.1 (r.2.set i e') (g.row id kt k):=by
   refine .inr ⟨b,cap,_,e,f.set i (pre++(a.eval y).cells.toList++post),by grind,hJ,R7 N,by grind,?_,?_,r',?_⟩
   ·have:cs.size=((f.take i).flatten++pre).length+c1.length+(post++((f.drop (i+1)).flatten++r')).length:=by rw[<-Vo,n];grind
    grind
   ·exact(a1.mono λx c hx=>Rd.mono j (by simp) _ x c hx).set i (Rd.mono j (by simp) _ _ _ L)
   omega
  refine Zu.write C a7 hJ (cs' :=(((f.take i).flatten++pre)++(a.eval y).cells.toList++(post++((f.drop (i+1)).flatten++r'))).toArray) ?_ ?_
  ·have s:i*r.1.size+pre.length=((f.take i).flatten++pre).length:=by grind
   simp only[execOp,ho,R,Vha,Vv,Vh,Vj,Ve,s,ZdA (hT.ty T t ht) N n rfl K O Q]
  ·exact Zwt C X Z (by rw[W];rfl) (Vu.1 V).1 a8 (λk hk=>setRow_other w b k _ hk)
 ·simp [Zb]at h
end ops
end Tr
end
