/- The data of the abstract machine: type codes, their Lean types, what it means that cells of memory read as a datum; abstract values, and what it means that a value of the model is one. Conditions: none (definitions and monotonicity). -/
import Derived.Orders
import Derived.Laws.Cells
import Derived.Laws.CopyRow
import Derived.Laws.Tables
import Derived.Laws.Rows
import Derived.Laws.World
import Derived.Laws.AppendOwn
noncomputable section
abbrev V.{u}(α:Type u):=List α
abbrev Y:=Go.Value
abbrev X:=Go.World
abbrev Z:=Go.TypeId
abbrev G:=Go.Operand
open Array renaming length_toList ->Vr,toList_push ->Vka,toList ->Vta
open BitVec renaming ofInt ->Vm
open Bool renaming and_eq_true ->Vc,false_eq_true ->Vz,not_eq_true' ->Vna,not_eq_true ->Voa
open Go.Instr renaming sureAddr ->Vt,storeAt ->Vfa
open List renaming length_append ->Vi,getElem?_append_right ->Vo,range ->Vp,getElem?_eq_some_iff ->Vq,take_append_drop ->Vv,append_inj ->Vw,replicate ->Vy,getD_eq_getElem?_getD ->Vaa,map_cons ->Vca,drop_eq_getElem_cons ->Vda,getElem?_append_left ->Vea,mem_append ->Vha,mem_cons ->Vja,nodup_append ->Vla,append_assoc ->Vma,isEmpty_iff ->Vpa,map_append ->Vqa,nodup_cons ->Vsa,mem_map ->Vua
open Nat renaming beq ->Vd,blt ->Vg,le_refl ->Vj,eq_of_beq_eq_true ->Vk,le_trans ->Vx,ble ->Vba,le_of_ble_eq_true ->Via
open Option renaming bind_eq_some_iff ->Vga
open Prod renaming fst ->Vf,snd ->Vra,ext ->Vva
open Prod.mk renaming injEq ->Vb,inj ->Ve
open Go.Result renaming andThen_ok ->Vl
open Go.Sem renaming run_bind ->Vn,run_pure ->Vs
open Go.Value renaming oneCell' ->Va,cells ->Vh
open Go.World renaming cell? ->Vu
open Option renaming some ->Ua,none ->Ub
open Bool renaming true ->Uc,false ->Ud
open Decidable renaming decide ->Ue
section
namespace Tr
theorem Zi{p:Prop}[Decidable p](h:p):decide p=true:=decide_eq_true h
theorem Zm{p:Prop}[Decidable p](h:¬p):decide p=false:=decide_eq_false h
theorem Za{α:Type _}{β:Type _}(a:α)(f:α->Option β):(Ua a).bind f=f a:=rfl
theorem Zf{α:Sort _}(a b:α):cond Uc a b=a:=rfl
theorem Ze{α:Sort _}(a b:α):cond Ud a b=b:=rfl
theorem Zn{c:Prop}{h:Decidable c}(k:c){α:Sort _}{t e:α}:ite c t e=t:=if_pos k
theorem Zg{c:Prop}{h:Decidable c}(k:¬c){α:Sort _}{t e:α}:ite c t e=e:=if_neg k
theorem KJ{p:Prop}[Decidable p]:(decide p=Uc)=p:=decide_eq_true_eq
theorem ZW(p:Prop):(p/\False)=False:=and_false p
theorem Z7(p:Prop):(p\/False)=p:=or_false p
theorem Kp{α:Type _}[BEq α][LawfulBEq α]{a b:α}:a==b↔a=b:=beq_iff_eq
theorem Xw{p:Prop}[Decidable p](h:decide p=Uc):p:=of_decide_eq_true h
theorem Z4{α:Type _}(a b:α):(Ua a=Ua b)=(a=b):=Option.some.injEq a b
theorem Kx{α:Type _}{a b:α}(h:Ua a=Ua b):a=b:=Option.some.inj h
theorem Hf{α:Type _}(a:α)(l:V α)(b:α)(m:V α):(a::l=b::m)=(a=b/\l=m):=List.cons.injEq a l b m
open Go
inductive Ty where
 |int (k:IntKind)
 |bool
 |str
 |sl (t:Ty)
 |unit
 |prod (a b:Ty)
 |arr (n:Nat) (t:Ty)
 |ref
 |pt (t:Ty)
 |lk (a b:Ty)
 |pn (t:Ty)
 deriving DecidableEq
@[reducible] def El:Ty->Type
  |.int _=>Int|.bool=>Bool|.str=>V UInt8|.sl t|.arr _ t=>V (El t)|.unit|.ref=>Unit|.prod a b=>El a×El b|.pt t=>Option (El t)|.lk a b=>V (El a×El b)|.pn t=>Option (Nat×El t)
def Ty.size:Ty->Nat|.unit=>0|.prod a b=>a.size+b.size|.arr n t=>n*t.size|_=>1
def Ty.agg:Ty->Bool|.unit|.prod _ _|.arr _ _=>Uc|_=>Ud
def KH(w:X)(b off:Nat)(l:V Y):Prop:= ∀j,(h:j<l.length)->w.cell? ⟨b,off+j,Ub⟩=Ua l[j]
def Fa{α β:Type}(r:α->β->Prop):V α->V β->Prop|[],[]=>True|a::l,b::m=>r a b/\Fa r l m|_,_=>False
def RE(w:X)(I:Nat->Prop){α:Type}(r:α->V Y->Prop):Option α->V Y->Prop|none,cs=>cs=[.pointer Ub]|some y,cs=>∃b cells e,cs=[.pointer (Ua ⟨b,0,Ub⟩)]/\I b/\w.heap[b]? =Ua (.cells cells e (0,0))/\r y cells.toList
def RD(w:X)(I:Nat->Prop){α:Type}(r:α->V Y->Prop):Option (Nat×α)->V Y->Prop|none,cs=>cs=[.pointer Ub]|some y,cs=>∃cells e,cs=[.pointer (Ua ⟨y.1,0,Ub⟩)]/\I y.1/\w.heap[y.1]? =Ua (.cells cells e (0,0))/\r y.2 cells.toList
def Y7(w:X)(I:Nat->Prop){α β:Type}(e:α->V Y->Prop)(f:β->V Y->Prop):V (α×β)->V Y->Prop|[],cs=>cs=[.pointer Ub]|y::l,cs=>∃b off c cl d,cs=[.pointer (Ua ⟨b,off,Ub⟩)]/\I b/\KH w b off (c++(cl++d))/\e y.1 c/\Y7 w I e f l cl/\f y.2 d
def Rd(w:X)(I:Nat->Prop):(t:Ty)->El t->V Y->Prop|.int k,x,cs=>cs=[.int k x]|.bool,x,cs=>cs=[.bool x]|.str,x,cs=>cs=[.string ⟨x.toArray⟩]|.sl t,x,cs=>∃a cap c,cs=[.slice a x.length cap]/\Fa (Rd w I t) x c/\(x≠ []->∃b off,a=Ua ⟨b,off,Ub⟩/\I b/\KH w b off c.flatten)/\x.length<=cap|.unit,_,cs=>cs=[]|.prod a b,x,cs=>∃d e,cs=d++e/\Rd w I a x.1 d/\Rd w I b x.2 e|.arr n t,x,cs=>x.length=n/\∃c,cs=c.flatten/\Fa (Rd w I t) x c|.ref,_,_=>False|.pt t,x,cs=>RE w I (Rd w I t) x cs|.lk a b,x,cs=>Y7 w I (Rd w I a) (Rd w I b) x cs|.pn t,x,cs=>RD w I (Rd w I t) x cs
theorem Fa.mono{α β}{r s}(h:∀a b,r a b->s a b):∀{l:V α}{m:V β},Fa r l m->Fa s l m|[],[],_=>trivial|_::_,_::_,⟨p,q⟩=>⟨h _ _ p,Fa.mono h q⟩
theorem Fa.length{α β}{r}:∀{l:V α}{m:V β},Fa r l m->l.length=m.length|[],[],_=>rfl|_::_,_::_,⟨_,q⟩=>by simp[Fa.length q]
theorem Fa.get{α β}{r}:∀{l}{m:V β} (_:Fa r l m) (i:Nat) (a:α),l[i]? =Ua a->∃b,m[i]? =Ua b/\r a b
 |[],[],_,i,a,h=>by grind|x::l,y::m,⟨p,q⟩,i,a,h=>by
  cases i with|zero=>grind|succ i=>have⟨b,c,d⟩:=Fa.get q i a h;grind
theorem Fa.append{α β}{r}:∀{l l' :V α}{m b:V β},Fa r l m->Fa r l' b->Fa r (l++l') (m++b)|[],_,[],_,_,h=>h|_::_,_,_::_,_,⟨p,q⟩,h=>⟨p,Fa.append q h⟩
theorem Fa.take{α β}{r}:∀{l:V α}{m:V β} n,Fa r l m->Fa r (l.take n) (m.take n)|[],[],n,_=>by grind|_::_,_::_,0,_=>by simp[Fa]|_::_,_::_,n+1,⟨p,q⟩=>by simp[List.take_succ_cons];exact⟨p,Fa.take n q⟩
theorem Fa.drop{α β}{r}:∀{l:V α}{m:V β} n,Fa r l m->Fa r (l.drop n) (m.drop n)|[],[],n,_=>by grind|_::_,_::_,0,h=>h|_::_,_::_,n+1,⟨_,q⟩=>by simp[List.drop_succ_cons];exact Fa.drop n q
theorem Fa.set{α β}{r}:∀{l}{m} n {a:α}{b:β},Fa r l m->r a b->Fa r (l.set n a) (m.set n b)|[],[],_,_,_,_,_=>by grind|_::_,_::_,0,_,_,⟨_,q⟩,h=>⟨h,q⟩|_::_,_::_,n+1,_,_,⟨p,q⟩,h=>⟨p,Fa.set n q h⟩
theorem Fa.eraseIdx{α β}{r}:∀{l:V α}{m:V β} n,Fa r l m->Fa r (l.eraseIdx n) (m.eraseIdx n)|[],[],_,_=>trivial|_::_,_::_,0,⟨_,q⟩=>q|_::_,_::_,n+1,⟨p,q⟩=>⟨p,Fa.eraseIdx n q⟩
def Kt(I:Nat->Prop)(w w' :X):Prop:= ∀b,I b->w'.heap[b]? =w.heap[b]?
theorem Zth{w w' :X}{a}(h:w'.heap[a.block]? =w.heap[a.block]?):w'.cell? a=w.cell? a:=by simp[Vu,h]
theorem KH.mono{w w' b off l}(h:w'.heap[b]? =w.heap[b]?)(d:KH w b off l):KH w' b off l:=by intro j c;rw[Zth (by simpa using h)];exact d j c
theorem RE.mono{w w' I d}{α}{r i}(q:Kt I w w')(n:∀b,I b->d b)(p:∀x c,r x c->i x c):∀(x:Option α) cs,RE w I r x cs->RE w' d i x cs|none,_,h=>h|some _,_,⟨b,c,e,j,f,k,m⟩=>⟨b,c,e,j,n _ f,(q _ f).trans k,p _ _ m⟩
theorem Y7.mono{w w' I f}{α β}{p d q e}(n:Kt I w w')(j:∀b,I b->f b)(k:∀x c,p x c->d x c)(m:∀x c,q x c->e x c):∀(x:V (α×β)) cs,Y7 w I p q x cs->Y7 w' f d e x cs|[],_,h=>h|_::l,_,⟨b,off,r,cl,s,u,i,y,z,A,C⟩=>⟨b,off,r,cl,s,u,j _ i,y.mono (n _ i),k _ _ z,Y7.mono n j k m l cl A,m _ _ C⟩
theorem RD.mono{w w' I d}{α}{r i}(q:Kt I w w')(n:∀b,I b->d b)(p:∀x c,r x c->i x c):∀(x:Option (Nat×α)) cs,RD w I r x cs->RD w' d i x cs|none,_,h=>h|some _,_,⟨c,e,j,f,k,m⟩=>⟨c,e,j,n _ f,(q _ f).trans k,p _ _ m⟩
theorem RD.length{w I}{α}{r}:∀{x:Option (Nat×α)}{cs},RD w I r x cs->∃a,cs=[.pointer a]|none,_,h=>⟨_,h⟩|some _,_,⟨_,_,h,_⟩=>⟨_,h⟩
theorem RE.length{w I}{α}{r}:∀{x:Option α}{cs},RE w I r x cs->∃a,cs=[.pointer a]|none,_,h=>⟨_,h⟩|some _,_,⟨_,_,_,h,_⟩=>⟨_,h⟩
theorem Y7.length{w I}{α β}{b c}:∀{x:V (α×β)}{cs},Y7 w I b c x cs->∃a,cs=[.pointer a]|[],_,h|_::_,_,⟨_,_,_,_,_,h,_⟩=>⟨_,h⟩
theorem Rd.mono{w w' I q}(e:Kt I w w')(d:∀b,I b->q b):∀t x cs,Rd w I t x cs->Rd w' q t x cs
 |.int _,_,_,h|.bool,_,_,h|.str,_,_,h=>h|.sl t,x,cs,h=>by
  have⟨a,cap,i,j,k,m,C⟩:=h;refine⟨a,cap,i,j,k.mono λy c f=>Rd.mono e d t y c f,λp=>?_,C⟩;have⟨b,off,z,r,A⟩:=m p
  exact⟨b,off,z,d _ r,A.mono (e _ r)⟩|.unit,_,_,h=>h|.prod a b,x,cs,h=>by
  have⟨s,u,j,k,m⟩:=h
  exact⟨s,u,j,Rd.mono e d a _ _ k,Rd.mono e d b _ _ m⟩|.arr n t,x,cs,h=>by
  have⟨j,i,k,m⟩:=h
  exact⟨j,i,k,m.mono λy c f=>Rd.mono e d t y c f⟩|.ref,_,_,h=>h.elim|.pt t,x,cs,h=>RE.mono e d (λy c f=>Rd.mono e d t y c f) x cs h|.lk a b,x,cs,h=>Y7.mono e d (λy c f=>Rd.mono e d a y c f) (λy c f=>Rd.mono e d b y c f) x cs h|.pn t,x,cs,h=>RD.mono e d (λy c f=>Rd.mono e d t y c f) x cs h
theorem Hm{css:V (V Y)}{n}(h:∀c∈css,c.length=n):css.flatten.length=css.length*n:=by
 induction css with
 |nil=>simp|cons c l b=>
  grind
theorem Fa.all_right{α β}{r}{p:β->Prop}(d:∀a b,r a b->p b):∀{l:V α}{m},Fa r l m->∀b∈m,p b
 |[],[],_=>by simp|_::_,y::m,⟨h,q⟩=>by
  intro b c;simp at c;obtain rfl|c:=c;.grind
  exact Fa.all_right d q b c
theorem Rd.length{w I}:∀t x cs,Rd w I t x cs->cs.length=t.size
 |.int _,_,_,h|.bool,_,_,h|.str,_,_,h=>by rw[h];rfl|.sl t,x,cs,h=>by
  have⟨a,cap,f,d,_⟩:=h
  rw[d];rfl|.unit,_,_,h=>by rw[h];rfl|.prod a b,x,cs,h=>by
  have⟨k,m,d,i,e⟩:=h
  rw[d,Vi,Rd.length a _ _ i,Rd.length b _ _ e];rfl|.arr n t,x,cs,h=>by
  have⟨d,f,i,e⟩:=h
  rw[i,Hm (e.all_right λy c j=>Rd.length t y c j),<-e.length,d];rfl|.ref,_,_,h=>h.elim|.pt t,x,cs,h=>by obtain⟨a,rfl⟩:=RE.length h;rfl|.lk a b,x,cs,h=>by obtain⟨p,rfl⟩:=Y7.length h;rfl|.pn t,x,cs,h=>by obtain⟨a,rfl⟩:=RD.length h;rfl
theorem Rd.all_length{w I t x css}(h:Fa (Rd w I t) x css):∀c∈css,c.length=t.size:=
 h.all_right λy c b=>Rd.length t y c b
mutual
inductive AV where
 |d (t:Ty) (x:El t)
 |junk
 |tup (l:ZF)
 |agg (l:ZF)
 |dp (t:Ty) (x:El t)
 |ptr (id:Nat) (path:V Nat)
 |vw (id:Nat)
 |vs (id e n:Nat)
 |vp (id i:Nat) (path:V Nat)
 |mp (id:Nat)
 |fn (f:FuncId) (c:ZF)
 |nilr (p:Bool)
 |nils
 |jk (n:Nat)
 |nw (id ver:Nat) (b:Ty) (k:El b)
 |np (id ver:Nat) (b:Ty) (k:El b) (i:Nat) (path:V Nat)
 |op (id i:Nat)
inductive ZF where
 |nil
 |cons (v:AV) (l:ZF)
end
def ZV:Ty->V Nat->Option (Nat×Ty)
 |t,[]=>Ua (0,t)|.prod a b,i::p=>match i with|0=>ZV a p|n+1=>(ZV b (n::p)).map λr=>(r.1+a.size,r.2)
 |.arr n t,i::p=>if i<n then(ZV t p).map λr=>(r.1+i*t.size,r.2) else Ub|_,_::_=>Ub
def H3:Ty->V Nat->Option Ty
 |t,[]=>Ua t|.prod a b,i::p=>match i with|0=>H3 a p|n+1=>H3 b (n::p)
 |.arr _ t,_::p=>H3 t p|_,_::_=>Ub
structure Gh where
 I:Nat->Prop
 K:Nat->Prop
 ty:Nat->Ty
 blk:Nat->Option Nat
 slv:Nat->Y
 ver:Nat->Nat
 row:Nat->(kt:Ty)->El kt->Y
structure Gh.Le (g g' :Gh):Prop where
 I:∀b,g.I b->g'.I b
 K:∀id,g.K id->g'.K id
 ty:∀id,g.K id->g'.ty id=g.ty id
 blk:∀id,g.K id->g'.blk id=g.blk id
 slv:∀id,g.K id->g'.slv id=g.slv id
 ver:∀id,g.K id->g.ver id<=g'.ver id
 row:∀id,g.K id->g'.ver id=g.ver id->g'.row id=g.row id
theorem Gh.Le.refl(g:Gh):g.Le g:=⟨λ_ h=>h,λ_ h=>h,by simp,by simp,by simp,by omega,by simp⟩
theorem Gh.Le.trans{a b c:Gh}(h:a.Le b)(k:b.Le c):a.Le c:=
 ⟨λi p=>k.I _ (h.I i p),λi p=>k.K _ (h.K i p),λi p=>(k.ty _ (h.K i p)).trans (h.ty i p),λi p=>(k.blk _ (h.K i p)).trans (h.blk i p),λi p=>(k.slv _ (h.K i p)).trans (h.slv i p),λi p=>Vx (h.ver i p) (k.ver _ (h.K i p)),λi p e=>by have d:=h.ver i p;have f:=k.ver _ (h.K i p);exact(k.row _ (h.K i p) (by omega)).trans (h.row i p (by omega))⟩
def RZ:Ty->Ty|.sl t=>t|t=>t
def ZeI(v:Y)(size c n:Nat)(cs:V Y):Prop:=
 (v=.slice Ub 0 0/\c=0/\n=0/\cs=[.slice Ub 0 0])\/
 ∃b len cap m,v=.slice (Ua ⟨b,0,Ub⟩) len cap/\c+n<=len/\n<=m/\c+m<=cap/\cs=[.slice (Ua ⟨b,if m=0 then 0 else c*size,Ub⟩) n m]
def WO:Nat:=1000
def GV(f:FuncId):FuncId:=bif Vg f WO then f else f - WO
def Xi(f:FuncId)(b:V Y):Y:=bif Vg f WO then .func (.func f) #[] b.toArray else .func (.func (f - WO)) b.toArray #[]
theorem ZcJ(f:FuncId) b:(Vg f WO=Uc/\Xi f b=.func (.func f) #[] b.toArray)\/(Vg f WO=Ud/\Xi f b=.func (.func (f - WO)) b.toArray #[]):=by
 unfold Xi;cases h:Vg f WO<;>simp
theorem Zvv f b:(Xi f b).oneCell'=true:=by
 obtain⟨_,h⟩|⟨_,h⟩:=ZcJ f b<;>rw[h]<;>rfl
theorem Zvt f b:(Xi f b).cells= #[Xi f b]:=by
 obtain⟨_,h⟩|⟨_,h⟩:=ZcJ f b<;>rw[h]<;>rfl
theorem Zvu{f c b}(h:Xi f c=Xi f b):c=b:=by
 unfold Xi at h;cases d:Vg f WO<;>rw[d]at h;.simp only[Ze,Value.func.injEq,true_and,and_true]at h;simpa using congrArg Vta h
 simp only[Zf,Value.func.injEq,true_and]at h;simpa using congrArg Vta h
mutual
def CV(w:X)(g:Gh):AV->V Y->Prop|.d t x,cs=>Rd w g.I t x cs|.junk,_=>True|.tup _,_=>False|.agg l,cs=>Kk w g l cs|.dp t x,cs=>∃b off c,cs=[.pointer (Ua ⟨b,off,Ub⟩)]/\g.I b/\KH w b off c/\Rd w g.I t x c|.ptr id p,cs=>g.K id/\∃o t b,ZV (g.ty id) p=Ua (o,t)/\g.blk id=Ua b/\cs=[.pointer (Ua ⟨b,o,Ub⟩)]|.vw id,cs=>g.K id/\cs=[g.slv id]/\(g.slv id).oneCell'=Uc|.vs id q n,cs=>g.K id/\ZeI (g.slv id) (g.ty id).size q n cs|.vp id i p,cs=>g.K id/\∃o t b,ZV (g.ty id) p=Ua (o,t)/\g.blk id=Ua b/\cs=[.pointer (Ua ⟨b,i* (g.ty id).size+o,Ub⟩)]|.mp id,cs=>g.K id/\∃b,g.blk id=Ua b/\cs=[.map (Ua b)]|.fn f l,cs=>∃m:V Y,cs=[Xi f m]/\Kk w g l m|.nilr p,cs=>cs=[.pointer Ub]\/p=Ud/\cs=[.nilFunc]\/p=Ud/\cs=[.map Ub]|.nils,cs=>cs=[.slice Ub 0 0]|.jk n,cs=>cs.length=n/\∀v∈cs,v.oneCell' =Uc|.nw id ver e k,cs=>g.K id/\ver<=g.ver id/\∃v,cs=[v]/\v.oneCell' =Uc/\(g.ver id=ver->v=g.row id e k)|.np id ver e k i p,cs=>g.K id/\ver<=g.ver id/\∃a,cs=[.pointer (Ua a)]/\(g.ver id=ver->∃b len cap o t,g.row id e k=.slice (Ua ⟨b,0,Ub⟩) len cap/\ZV (RZ (g.ty id)) p=Ua (o,t)/\a=⟨b,i* (RZ (g.ty id)).size+o,Ub⟩)|.op id i,cs=>g.K id/\∃b off len cap,g.slv id=.slice (Ua ⟨b,off,Ub⟩) len cap/\cs=[.pointer (Ua ⟨b,off+i,Ub⟩)]
def Kk(w:X)(g:Gh):ZF->V Y->Prop|.nil,cs=>cs=[]|.cons v l,cs=>∃h j,cs=h++j/\CV w g v h/\Kk w g l j
end
theorem ZcT{w g p cs}(h:CV w g (.nilr p) cs):cs=[.pointer Ub]\/cs=[.nilFunc]\/cs=[.map Ub]:=by
 simp[CV]at h;obtain h|⟨_,h⟩|⟨_,h⟩:=h;.exact .inl h
 .exact .inr (.inl h)
 exact .inr (.inr h)
theorem Zou{w g cs}(h:CV w g (.nilr Uc) cs):cs=[.pointer Ub]:=by
 obtain h|⟨h,_⟩|⟨h,_⟩:=h;.exact h
 .cases h
 cases h
mutual
theorem CV.mono{w w' :X}{g z:Gh}(u:Kt g.I w w')(j:g.Le z):∀(v:AV) (cs:V Y),CV w g v cs->CV w' z v cs
 |.d t x,cs,h=>Rd.mono u j.I t x cs h|.junk,_,_=>by simp[CV]|.tup _,_,h=>by simp[CV]at h|.agg l,cs,h=>by simp only[CV]at h⊢;exact Kk.mono u j l cs h|.dp t x,cs,h=>by
  simp only[CV]at h⊢;obtain⟨b,off,c,q,r,s,L⟩:=h
  exact⟨b,off,c,q,j.I _ r,s.mono (u _ r),Rd.mono u j.I t x c L⟩|.ptr id p,cs,h=>by
  simp only[CV]at h⊢;obtain⟨m,o,t,b,q,r,s⟩:=h
  exact⟨j.K _ m,o,t,b,by rw[j.ty _ m];exact q,by rw[j.blk _ m];exact r,s⟩|.vw id,cs,h=>by
  simp only[CV]at h⊢
  exact⟨j.K _ h.1,by rw[j.slv _ h.1];exact h.2⟩|.vs id N n,cs,h=>by
  simp only[CV]at h⊢
  exact⟨j.K _ h.1,by rw[j.slv _ h.1,j.ty _ h.1];exact h.2⟩|.vp id i p,cs,h=>by
  simp only[CV]at h⊢;obtain⟨m,o,t,b,q,r,s⟩:=h
  exact⟨j.K _ m,o,t,b,by rw[j.ty _ m];exact q,by rw[j.blk _ m];exact r,by rw[j.ty _ m];exact s⟩|.mp id,cs,h=>by
  simp only[CV]at h⊢;obtain⟨m,b,q,r⟩:=h
  exact⟨j.K _ m,b,by rw[j.blk _ m];exact q,r⟩|.fn f l,cs,h=>by
  simp only[CV]at h⊢;obtain⟨J,q,r⟩:=h
  exact⟨J,q,Kk.mono u j l J r⟩|.nilr _,_,h|.nils,_,h|.jk _,_,h=>by simpa only[CV] using h|.nw id ver M k,cs,h=>by
  simp only[CV]at h⊢;obtain⟨m,A,v,q,r,s⟩:=h;have y:=j.ver _ m
  exact⟨j.K _ m,Vx A y,v,q,r,λe=>by rw[j.row _ m (by omega)];exact s (by omega)⟩|.np id ver M k i p,cs,h=>by
  simp only[CV]at h⊢;obtain⟨m,A,a,q,s⟩:=h;have y:=j.ver _ m
  exact⟨j.K _ m,Vx A y,a,q,λe=>by rw[j.row _ m (by omega),j.ty _ m];exact s (by omega)⟩|.op id i,cs,h=>by simp only[CV]at h⊢;exact⟨j.K _ h.1,by rw[j.slv _ h.1];exact h.2⟩
theorem Kk.mono{w w' :X}{g z:Gh}(u:Kt g.I w w')(j:g.Le z):∀(l:ZF) (cs:V Y),Kk w g l cs->Kk w' z l cs|.nil,_,h=>by simpa only[Kk] using h|.cons v l,cs,h=>by simp only[Kk]at h⊢;obtain⟨C,D,q,r,s⟩:=h;exact⟨C,D,q,CV.mono u j v C r,Kk.mono u j l D s⟩
end
def AV.isAgg:AV->Bool|.d t _=>t.agg|.agg _=>Uc|_=>Ud
def Kb:Y->Bool|.agg _=>Uc|_=>Ud
theorem Zne f b:Kb (Xi f b)=false:=by
 obtain⟨_,h⟩|⟨_,h⟩:=ZcJ f b<;>rw[h]<;>rfl
def Kw(w:X)(g:Gh)(a:AV)(v:Y):Prop:=CV w g a v.cells.toList/\(a=.junk\/Kb v=a.isAgg)
def Jd(w:X)(g:Gh):ZF->V Y->Prop|.nil,vs=>vs=[]|.cons a l,vs=>∃v r,vs=v::r/\Kw w g a v/\Jd w g l r
def VR(w:X)(g:Gh):AV->Y->Prop|.tup l,v=>∃vs,v=.tuple vs.toArray/\Jd w g l vs|a,v=>Kw w g a v
theorem Kw.mono{w w' g b}(d:Kt g.I w w')(c:g.Le b){a v}(h:Kw w g a v):Kw w' b a v:=⟨CV.mono d c _ _ h.1,h.2⟩
theorem Jd.mono{w w' g b}(d:Kt g.I w w')(c:g.Le b):∀{l}{vs},Jd w g l vs->Jd w' b l vs|.nil,_,h=>h|.cons _ _,_,h=>by have⟨v,r,e,f,i⟩:=h;exact⟨v,r,e,f.mono d c,i.mono d c⟩
theorem VR.mono{w w' g b}(d:Kt g.I w w')(c:g.Le b){a v}(h:VR w g a v):VR w' b a v:=by
 cases a with|tup l=>have⟨vs,e,f⟩:=h;exact⟨vs,e,f.mono d c⟩|_=>exact Kw.mono d c h
theorem Gi{w g v}:VR w g .junk v:=⟨by simp[CV],.inl rfl⟩
end Tr
end
section
namespace Tr
open Go
@[reducible] def ZS (tn tq lt lb:Ty):Type:=El tn×El tq×El lt×V (V (El lb))×V (El lb)×V (El lb)
def Jn(tn tq lt lb:Ty):Ty:=.prod tn (.prod tq (.prod lt (.prod (.sl (.sl (.pn lb))) (.prod (.sl (.pn lb)) (.prod (.sl (.pn lb)) .unit)))))
def Yx(tn tq lt lb:Ty):Ty:=.prod tn (.prod tq (.prod lt (.prod (.sl (.sl (.pt lb))) (.prod (.sl (.pt lb)) (.prod (.sl (.pt lb)) .unit)))))
def Zf5 tn tq lt{lb}(x:ZS tn tq lt lb):AV:=.agg (.cons (.d tn x.1) (.cons (.d tq x.2.1) (.cons (.d lt x.2.2.1) (.cons (.jk 1) (.cons (.jk 1) (.cons (.jk 1) .nil))))))
inductive Yh where
 |var (t:Ty) (c:AV)
 |vec (t:Ty) (xs:V (El t))
 |map (kt vt:Ty) (m:V (El kt×El vt))
 |rows (t:Ty) (xs:V (V (El t))) (ver:Nat) (hole:Option Nat)
 |mrows (kt t:Ty) (m:V (El kt×V (El t))) (ver:Nat) (hole:Option (El kt))
 |rng (kt vt:Ty) (rest:V (El kt×El vt)) (cur:Option (El kt×El vt))
 |dat (t:Ty) (xs:V (El t))
 |vco (lb:Ty) (xs:V (El (.pn lb)))
 |fnd (tn tq lt lb:Ty) (x:ZS tn tq lt lb)
mutual
def AV.fits:AV->Ty->Bool|.d c _,t=>c==t|.agg l,t=>l.fits t|.jk n,t=>n==t.size|.junk,_|.tup _,_=>Ud|.vw _,.sl _|.vs _ _ _,.sl _|.nw _ _ _ _,.sl _|.np _ _ _ _ _ _,.ref|.nils,.sl _|.dp _ _,.ref|.ptr _ _,.ref|.vp _ _ _,.ref|.mp _,.ref|.fn _ _,.ref|.nilr _,.ref|.dp _ _,.pt _|.dp _ _,.lk _ _|.ptr _ _,.pt _|.ptr _ _,.lk _ _|.nilr _,.pt _|.nilr _,.lk _ _=>Uc|_,_=>Ud
def ZF.fits:ZF->Ty->Bool|.nil,.unit=>Uc|.cons v l,.prod a b=>v.fits a&&l.fits b|_,_=>Ud
end
def WF(w:X)(I J:Nat->Prop) t(xs:V (El t))(d:Y):Prop:=
 (xs=[]/\d=.slice Ub 0 0)\/∃b cap cells e c,d=.slice (Ua ⟨b,0,Ub⟩) xs.length cap/\J b/\w.heap[b]? =Ua (.cells cells e (0,0))/\xs.length<=cap/\cap*t.size<=cells.size/\Fa (Rd w I t) xs c/\c.flatten<+:cells.toList
def HE(w:X)(I J:Nat->Prop) lb(xs:V (El (.pn lb)))(c:Y):Prop:=
 (xs=[]/\c=.slice Ub 0 0)\/∃b off cap cells e d,c=.slice (Ua ⟨b,off,Ub⟩) xs.length cap/\J b/\w.heap[b]? =Ua (.cells cells e (0,0))/\xs.length<=cap/\off+cap<=cells.size/\Fa (λx v=>Rd w I (.pn lb) x [v]) xs d/\d<+:cells.toList.drop off
def WQ:Y->Option Nat|.slice (Ua a) _ _=>Ua a.block|_=>Ub
structure RF {κ:Type} (w:X) (I J:Nat->Prop) (t:Ty) (top:Option Nat) (row:κ->Y) (c:κ->V (El t)->Prop) (hole:Option κ):Prop where
 rd:∀k x,c k x->hole≠Ua k->WF w I J t x (row k)
 ds:∀k k' x x' b,c k x->c k' x' ->k≠k' ->hole≠Ua k->hole≠Ua k' ->WQ (row k)=Ua b->WQ (row k')≠Ua b
 tp:∀k x b,c k x->hole≠Ua k->WQ (row k)=Ua b->top≠Ua b
def Ix(es:Array MapEntry)(clock:Nat):Prop:=clock=es.size/\∀i (e:MapEntry),es[i]? =Ua e->e.born=i
def Bn(es:Array MapEntry)(clock:Nat):Prop:=(∀x∈es.toList,x.born<clock)/\(es.toList.map (·.born)).Nodup
theorem Bn.empty c:Bn #[] c:=⟨by simp,by simp⟩
theorem Bn.push{es clock}(h:Bn es clock){e}(j:e.born=clock):Bn (es.push e) (clock+1):=by
 refine⟨λx c=>?_,?_⟩
 .rw[Vka]at c;obtain d|d:=Vha.1 c
  .exact Nat.lt_succ_of_lt (h.1 x d)
  grind
 rw[Vka,Vqa];refine Vla.2 ⟨h.2,by simp,λa f b i=>?_⟩;simp at i;obtain⟨x,c,rfl⟩:=Vua.1 f;have:=h.1 x c;omega
theorem Bn.same{es b clock}(h:Bn es clock)(d:b.toList.map (·.born)=es.toList.map (·.born)):Bn b clock:=by
 refine⟨λx f=>?_,d▸h.2⟩;have:x.born∈es.toList.map (·.born):=by grind
 have⟨y,e,c⟩:=Vua.1 this;rw[<-c];exact h.1 y e
def Gx(es:Array MapEntry)(seen:Array Nat):V MapEntry:=es.toList.filter λe=> !seen.contains e.born
def RL(w:X)(I J:Nat->Prop) t(b:V Y)(xs:V (V (El t))):Prop:=
 b.length=xs.length/\RF w I J t Ub (λi=>b.getD i undef) (λi x=>xs[i]? =Ua x) Ub
def Xs(w:X)(I J:Nat->Prop) t(xs:V (V (El t)))(v:Y):Prop:=
 ∃c,RL w I J t c xs/\((xs=[]/\v=.slice Ub 0 0)\/∃b cap cs e,J b/\(∀i x,xs[i]? =Ua x->WQ (c.getD i undef)≠Ua b)/\v=.slice (Ua ⟨b,0,Ub⟩) xs.length cap/\w.heap[b]? =Ua (.cells cs e (0,0))/\
  xs.length<=cap/\cap<=cs.size/\∀i,i<xs.length->cs[i]? =Ua (c.getD i undef))
def KA{lb}(b:El lb->Nat)(y:El lb):El (.pn lb):=Ua (b y,y)
def JS{tn tq lt lb}(x:ZS tn tq lt lb):V (El lb):=x.2.2.2.1.flatten++x.2.2.2.2.1++x.2.2.2.2.2
def Yl{tn tq lt lb}(b:El lb->Nat)(x:ZS tn tq lt lb):Prop:= ∀y∈JS x,∀c∈JS x,b y=b c->y=c
def Zap(w:X)(I J:Nat->Prop) tn tq lt lb(x:ZS tn tq lt lb)(b:Nat):Prop:=
 J b/\∃d h f c,Yl d x/\(∀k,h k->J k/\k≠b/\ ¬f k/\ ¬c k)/\(∀k,f k->J k/\k≠b/\ ¬c k)/\(∀k,c k->J k/\k≠b)/\
   ∃cells e i j c3 m n p,w.heap[b]? =Ua (.cells cells e (0,0))/\cells.toList=i++(j++(c3++[m,n,p]))/\Rd w I tn x.1 i/\Rd w I tq x.2.1 j/\Rd w I lt x.2.2.1 c3/\
    Xs w I h (.pn lb) (x.2.2.2.1.map λr=>r.map (KA d)) m/\HE w I f lb (x.2.2.2.2.1.map (KA d)) n/\WF w I c (.pn lb) (x.2.2.2.2.2.map (KA d)) p
def ORel(w:X)(g:Gh)(ow:Nat->Prop)(id:Nat):Yh->Prop
 |.var t c=>g.ty id=t/\c.fits t=Uc/\∃b cs e,g.blk id=Ua b/\ow b/\w.heap[b]? =Ua (.cells cs e (0,0))/\cs.size=t.size/\CV w g c cs.toList|.vec t xs=>g.ty id=t/\((xs=[]/\g.blk id=Ub/\g.slv id=.slice Ub 0 0)\/
   ∃b cap cs e p,g.blk id=Ua b/\ow b/\g.slv id=.slice (Ua ⟨b,0,Ub⟩) xs.length cap/\w.heap[b]? =Ua (.cells cs e (0,0))/\xs.length<=cap/\cap*t.size<=cs.size/\
    Fa (Rd w g.I t) xs p/\p.flatten<+:cs.toList)|.map h q m=>∃b es clock,g.blk id=Ua b/\ow b/\w.heap[b]? =Ua (.map es clock)/\Bn es clock/\Fa (λkv e=>Kw w g (.d h kv.1) e.key/\Kw w g (.d q kv.2) e.val) m es.toList|.rows t xs ver f=>g.ty id=.sl t/\g.ver id=ver/\RF w g.I ow t (g.blk id) (λi:Nat=>g.row id (.int .i64) (i:Int)) (λi x=>xs[i]? =Ua x) f/\
   ((xs=[]/\g.blk id=Ub/\g.slv id=.slice Ub 0 0)\/
     ∃b cap cs e,g.blk id=Ua b/\ow b/\g.slv id=.slice (Ua ⟨b,0,Ub⟩) xs.length cap/\w.heap[b]? =Ua (.cells cs e (0,0))/\xs.length<=cap/\cap<=cs.size/\∀i,i<xs.length->cs[i]? =Ua (g.row id (.int .i64) (i:Int)))|.mrows h t m ver f=>g.ty id=.sl t/\g.ver id=ver/\RF w g.I ow t (g.blk id) (g.row id h) (λk x=>(k,x)∈m) f/\(m.map Vf).Nodup/\(∀k,k ∉ m.map Vf->g.row id h k=.slice Ub 0 0)/\
   ∃b es clock,g.blk id=Ua b/\ow b/\w.heap[b]? =Ua (.map es clock)/\Ix es clock/\Fa (λkv e=>Kw w g (.d h kv.1) e.key/\e.val=g.row id h kv.1) m es.toList|.rng h q rest cur=>∃b r es clock since seen,g.ty id=.ref/\g.blk id=Ua b/\ow b/\ow r/\w.heap[b]? =Ua (.mapIter (Ua r) since seen clock)/\w.heap[r]? =Ua (.map es clock)/\
   ((∀x∈es.toList,x.born<since)/\since<=clock/\(es.toList.map (·.born)).Nodup)/\Fa (λkv e=>Kw w g (.d h kv.1) e.key/\Kw w g (.d q kv.2) e.val) rest (Gx es seen)/\
   ∀kv,cur=Ua kv->∃e∈es.toList,∃j:Array Nat,seen=j.push e.born/\Kw w g (.d h kv.1) e.key/\Kw w g (.d q kv.2) e.val|.dat t xs=>g.ty id=t/\Rd w g.I (.sl t) xs [g.slv id]|.vco n xs=>g.ty id=.pn n/\HE w g.I ow n xs (g.slv id)|.fnd s u lt n x=>(g.ty id=Jn s u lt n\/g.ty id=Yx s u lt n)/\∃b,g.blk id=Ua b/\Zap w g.I ow s u lt n x b
structure KR where
 w0:X
 own0:Nat->Prop
 I0:Nat->Prop
 pl:Bool
abbrev AH:=Nat->Option Yh
structure Y2 (w' w:X):Prop where
 out:w'.output=w.output
 drawn:w.drawn<=w'.drawn
theorem Y2.rfl{w}:Y2 w w:=⟨_root_.rfl,Vj _⟩
structure Y5 (d:Bool) (w' w:X):Prop where
 out:w'.output=w.output
 drawn:d=Uc->w.drawn<=w'.drawn
theorem Y5.rfl{d w}:Y5 d w w:=⟨_root_.rfl,by omega⟩
theorem Y2.trans{d a b c}(h:Y2 a b)(k:Y5 d b c):Y5 d a c:=⟨h.out.trans k.out,λe=>Vx (k.drawn e) h.drawn⟩
theorem Y5.trans{d a b c}(h:Y5 d a b)(k:Y5 d b c):Y5 d a c:=⟨h.out.trans k.out,λe=>Vx (k.drawn e) (h.drawn e)⟩
theorem Y5.weak{d e a b}(h:Y5 d a b)(k:e=Uc->d=Uc):Y5 e a b:=⟨h.out,λx=>h.drawn (k x)⟩
structure RH (B:KR) (H:AH) (w:X) (g:Gh) (ow:Nat->Nat->Prop):Prop where
 objs:∀id o,H id=Ua o->g.K id/\ORel w g (ow id) id o
 dist:∀id id' b,H id≠Ub->H id' ≠Ub->ow id b->ow id' b->id=id'
 sep:∀id b,H id≠Ub->ow id b->¬g.I b/\b<w.heap.size/\(B.own0 b\/B.w0.heap.size<=b)
 ilt:∀b,g.I b->b<w.heap.size
 inew:∀b,g.I b->B.I0 b\/B.own0 b\/B.w0.heap.size<=b
 os:w.os=B.w0.os
 tape:w.tape=B.w0.tape
 output:Y5 B.pl w B.w0
 size:B.w0.heap.size<=w.heap.size
 kept:∀b,b<B.w0.heap.size->¬B.own0 b->w.heap[b]? =B.w0.heap[b]?
structure JG (w w' :X):Prop where
 heap:w'.heap=w.heap
 os:w'.os=w.os
 tape:w'.tape=w.tape
 output:Y2 w' w
theorem JG.refl w:JG w w:=⟨rfl,rfl,rfl,.rfl⟩
theorem JG.agree{w w'}(h:JG w w') I:Kt I w w' :=λb _=>by rw[h.heap]
theorem WF.mono{w w' I i J j t xs d}(y:Kt I w w')(s:∀b,I b->i b)(hJ:∀b,WQ d=Ua b->J b->j b)(u:∀b,WQ d=Ua b->J b->w'.heap[b]? =w.heap[b]?)(h:WF w I J t xs d):WF w' i j t xs d:=by
 obtain h|⟨b,cap,cells,e,f,rfl,k,m,n,p,q,r⟩:=h;.exact .inl h
 exact .inr ⟨b,cap,cells,e,f,rfl,hJ b rfl k,(u b rfl k).trans m,n,p,q.mono λx c z=>Rd.mono y s t x c z,r⟩
theorem Zi0{w I lb}:∀{l}{css},Fa (Rd w I (.pn lb)) l css->∃b,css.flatten=b/\Fa (λx v=>Rd w I (.pn lb) x [v]) l b|[],[],_=>⟨[],rfl,trivial⟩|x::l,c::css,⟨d,e⟩=>by have⟨b,f,h⟩:=Zi0 e;have i:=Rd.length _ _ _ d;obtain⟨v,rfl⟩:=List.length_eq_one_iff.1 (i);exact⟨v::b,by simp[f],d,h⟩
theorem HE.mono{w w' I d J f lb xs c}(u:Kt I w w')(q:∀b,I b->d b)(hJ:∀b,WQ c=Ua b->J b->f b)(r:∀b,WQ c=Ua b->J b->w'.heap[b]? =w.heap[b]?)(h:HE w I J lb xs c):HE w' d f lb xs c:=by
 obtain h|⟨b,off,cap,cells,e,s,rfl,i,j,k,m,n,p⟩:=h;.exact .inl h
 exact .inr ⟨b,off,cap,cells,e,s,rfl,hJ b rfl i,(r b rfl i).trans j,k,m,n.mono λx v y=>Rd.mono u q (.pn lb) x [v] y,p⟩
theorem RF.mono{n w w' I d J e t top row c}{hole:Option n}(m:Kt I w w')(j:∀b,I b->d b)(hJ:∀b,J b->e b)(p:∀b,J b->w'.heap[b]? =w.heap[b]?)
 (h:RF w I J t top row c hole):RF w' d e t top row c hole:=
 ⟨λk x f i=>(h.rd k x f i).mono m j (by grind) (by grind),h.ds,h.tp⟩
theorem Xs.mono{w' w I c J d t xs v}(k:Kt I w w')(f:∀b,I b->c b)(hJ:∀b,J b->d b)(i:∀b,J b->w'.heap[b]? =w.heap[b]?)(h:Xs w I J t xs v):Xs w' c d t xs v:=by have⟨j,e,m⟩:=h;refine⟨j,⟨e.1,e.2.mono k f hJ i⟩,?_⟩;grind
theorem Zap.mono{w w' I u J y tn tq lt lb x b}(f:Kt I w w')(d:∀b,I b->u b)(hJ:∀b,J b->y b)(i:∀b,J b->w'.heap[b]? =w.heap[b]?)(h:Zap w I J tn tq lt lb x b):Zap w' u y tn tq lt lb x b:=by
 have⟨z,K,A,C,D,N,q,r,s,cells,e,L,M,c3,U,W,v6,O,Q,R,S,j,m,n,p⟩:=h;exact⟨hJ _ z,K,A,C,D,N,λk c=>⟨hJ _ (q k c).1,(q k c).2⟩,λk c=>⟨hJ _ (r k c).1,(r k c).2⟩,λk c=>⟨hJ _ (s k c).1,(s k c).2⟩,cells,e,L,M,c3,U,W,v6,(i _ z).trans O,Q,
  Rd.mono f d _ _ _ R,Rd.mono f d _ _ _ S,Rd.mono f d _ _ _ j,m.mono f d (λ_ h=>h) λk c=>i k (q k c).1,n.mono f d (λ_ _ h=>h) λk _ c=>i k (r k c).1,p.mono f d (λ_ _ h=>h) λk _ c=>i k (s k c).1⟩
theorem ORel.mono{w w' g M ow id o}(j:Kt g.I w w')(d:g.Le M)(f:g.K id)(s:M.ver id=g.ver id)(J:∀b,ow b->w'.heap[b]? =w.heap[b]?)(h:ORel w g ow id o):ORel w' M ow id o:=by
 cases o with
 |var t c=>
  have⟨n,hf,b,cs,e,i,p,k,q,y⟩:=h
  exact⟨(d.ty _ f).trans n,hf,b,cs,e,(d.blk _ f).trans i,p,by grind,q,y.mono j d⟩|vec t xs=>
  have⟨n,h⟩:=h;refine⟨(d.ty _ f).trans n,?_⟩;obtain⟨i,k,q⟩|⟨b,cap,cs,e,L,i,p,k,q,y,C,z,D⟩:=h;.exact .inl ⟨i,(d.blk _ f).trans k,(d.slv _ f).trans q⟩
  exact .inr ⟨b,cap,cs,e,L,(d.blk _ f).trans i,p,(d.slv _ f).trans k,by grind,y,C,z.mono λx c r=>Rd.mono j d.I t x c r,D⟩|map kt vt m=>
  have⟨b,es,clock,i,p,k,U,q⟩:=h
  exact⟨b,es,clock,(d.blk _ f).trans i,p,by grind,U,q.mono λx e r=>⟨r.1.mono j d,r.2.mono j d⟩⟩|rows t xs ver A=>
  have⟨n,i,k,h⟩:=h;refine⟨(d.ty _ f).trans n,s.trans i,?_,?_⟩;.rw[d.row _ f s,d.blk _ f];exact k.mono j d.I (by simp) J
  rw[d.row _ f s,d.blk _ f,d.slv _ f]
  grind|mrows kt t m ver A=>
  have⟨n,i,k,q,y,b,es,clock,C,z,D,W,R⟩:=h;refine⟨(d.ty _ f).trans n,s.trans i,?_,q,?_,b,es,clock,(d.blk _ f).trans C,z,by grind,W,?_⟩;.rw[d.row _ f s,d.blk _ f];exact k.mono j d.I (by simp) J
  .rw[d.row _ f s];omega
  rw[d.row _ f s];exact R.mono λx e r=>⟨r.1.mono j d,r.2⟩|rng kt vt rest cur=>
  have⟨b,mb,es,clock,since,seen,n,i,k,q,y,C,z,D,R⟩:=h;refine⟨b,mb,es,clock,since,seen,(d.ty _ f).trans n,(d.blk _ f).trans i,k,q,by grind,by grind,z,D.mono λx e r=>⟨r.1.mono j d,r.2.mono j d⟩,λkv a0=>?_⟩;have⟨e,h9,u,N,O,Q⟩:=R kv a0
  exact⟨e,h9,u,N,O.mono j d,Q.mono j d⟩|dat t xs=>
  exact⟨(d.ty _ f).trans h.1,by rw[d.slv _ f];exact Rd.mono j d.I _ _ _ h.2⟩|vco lb xs=>
  exact⟨(d.ty _ f).trans h.1,by rw[d.slv _ f];exact h.2.mono j d.I (λ_ _ h=>h) λb _ S=>J b S⟩|fnd tn tq lt lb x=>
  have⟨n,b,i,k⟩:=h;exact⟨n.imp (d.ty _ f).trans (d.ty _ f).trans,b,(d.blk _ f).trans i,k.mono j d.I (λ_ h=>h) J⟩
theorem RH.same{B H w w' g ow}(h:RH B H w g ow)(c:JG w w'):RH B H w' g ow where
 objs:=λid o f=>⟨(h.objs id o f).1,(h.objs id o f).2.mono (c.agree _) (.refl g) (h.objs id o f).1 rfl λb _=>by rw[c.heap]⟩
 dist:=h.dist
 sep:=λid b d e=>by rw[c.heap];exact h.sep id b d e
 ilt:=λb i=>by rw[c.heap];exact h.ilt b i
 inew:=h.inew
 os:=c.os.trans h.os
 tape:=c.tape.trans h.tape
 output:=c.output.trans h.output
 size:=by rw[c.heap];exact h.size
 kept:=λb d e=>by rw[c.heap];exact h.kept b d e
def ZX(H:AH)(id:Nat)(o:Option Yh):AH:=λk=>bif Vd k id then o else H k
theorem XY{H id o}:ZX H id o id=o:=by simp[ZX]
theorem KB{H id k o}(h:k≠id):ZX H id o k=H k:=by
 have:Vd k id=false:=by
  cases b:Vd k id;all_goals simp_all
 simp[ZX,this]
theorem YZ{H id k}(h:ZX H id Ub k≠Ub):k≠id/\H k≠none:=by
 by_cases b:k=id;.subst b;exact absurd XY h
 exact⟨b,by rwa [KB b]at h⟩
theorem RH.drop{B H w g ow}(h:RH B H w g ow) id:RH B (ZX H id Ub) w g ow where
 objs:=λk o d=>by have:=(YZ (H:=H) (id:=id) (k:=k) (by grind)).1;rw[KB this]at d;exact h.objs k o d
 dist:=λk f b c e=>h.dist k f b (YZ c).2 (YZ e).2
 sep:=λk b c=>h.sep k b (YZ c).2
 ilt:=h.ilt
 inew:=h.inew
 os:=h.os
 tape:=h.tape
 output:=h.output
 size:=h.size
 kept:=h.kept
def Gh.add(g:Gh)(id:Nat)(t:Ty)(b:Option Nat)(v:Y)(r:(c:Ty)->El c->Y:=λ_ _=>.slice Ub 0 0):Gh where
 I:=g.I
 K:=λk=>k=id\/g.K k
 ty:=λk=>if k=id then t else g.ty k
 blk:=λk=>if k=id then b else g.blk k
 slv:=λk=>if k=id then v else g.slv k
 ver:=λk=>if k=id then 0 else g.ver k
 row:=λk=>if k=id then r else g.row k
theorem Gh.le_add{g:Gh}{id}(h:¬g.K id) t b v(r:(d:Ty)->El d->Y:=λ_ _=>.slice Ub 0 0):g.Le (g.add id t b v r) where
 I:=λ_ h=>h
 K:=λ_ h=>.inr h
 ty:=λk c=>Zg (by grind)
 blk:=λk c=>Zg (by grind)
 slv:=λk c=>Zg (by grind)
 ver:=λk c=>Nat.le_of_eq (Zg (by grind)).symm
 row:=λk c _=>Zg (by grind)
def Xv(ow:Nat->Nat->Prop)(id:Nat)(J:Nat->Prop):Nat->Nat->Prop:=λk b=>if k=id then J b else ow k b
theorem Xd{ow id J}:Xv ow id J id=J:=by funext b;simp[Xv]
theorem Je{ow id k J}(h:k≠id):Xv ow id J k=ow k:=by funext b;simp[Xv,h]
theorem RH.add{B H w w' g ow}(h:RH B H w g ow){id}(L:¬g.K id){t b v r o J}
 (e:∀k,k<w.heap.size->w'.heap[k]? =w.heap[k]?) (N:w.heap.size<=w'.heap.size) (C:w'.os=w.os) (s:w'.tape=w.tape) (u:Y2 w' w)
 (A:∀k,J k->¬g.I k/\k<w'.heap.size/\(B.own0 k\/B.w0.heap.size<=k)/\∀x,H x≠Ub->¬ow x k)
 (M:ORel w' (g.add id t b v r) J id o):RH B (ZX H id (Ua o)) w' (g.add id t b v r) (Xv ow id J) where
 objs:=λk O m=>by
  by_cases c:k=id;.subst c;rw[XY]at m;cases m;rw[Xd];exact⟨.inl rfl,M⟩
  rw[KB c]at m;have⟨j,f⟩:=h.objs k O m;rw[Je c];refine⟨.inr j,f.mono (λb A=>e b (h.ilt b A)) (Gh.le_add L t b v r) j (Zg c) λi n=>e i ?_⟩;exact(h.sep k i (by grind) n).2.1
 dist:=λk D i j f y z=>by
  by_cases c:k=id<;>by_cases d:D=id;.omega
  .subst c;rw[KB d]at f;rw[Xd]at y;rw[Je d]at z;grind
  .subst d;rw[KB c]at j;rw[Xd]at z;rw[Je c]at y;grind
  rw[KB c]at j;rw[KB d]at f;rw[Je c]at y;rw[Je d]at z;exact h.dist k D i j f y z
 sep:=λk i j f=>by
  by_cases c:k=id;.subst c;rw[Xd]at f;have⟨p,q,r,_⟩:=A _ f;exact⟨p,q,r⟩
  rw[KB c]at j;rw[Je c]at f;have⟨p,q,r⟩:=h.sep k i j f;exact⟨p,by omega,r⟩
 ilt:=λi n=>by have:=h.ilt i n;omega
 inew:=h.inew
 os:=C.trans h.os
 tape:=s.trans h.tape
 output:=u.trans h.output
 size:=by have:=h.size;omega
 kept:=λi j f=>(e i (by have:=h.size;omega)).trans (h.kept i j f)
theorem RH.write{B H w w' g ow}(h:RH B H w g ow){id b z}(s:H id≠Ub)(A:ow id b)
 (d:∀k,k≠b->w'.heap[k]? =w.heap[k]?) (q:w'.heap.size=w.heap.size) (y:w'.os=w.os) (r:w'.tape=w.tape) (u:Y2 w' w)
 (L:ORel w' g (ow id) id z):RH B (ZX H id (Ua z)) w' g ow:=by
 have D:=h.sep id b s A;have c:∀k,ZX H id (Ua z) k≠Ub->H k≠none:=by
  intro k C;by_cases e:k=id;.grind
  rwa [KB e]at C
 have x:Kt g.I w w' :=λk C=>by grind
 exact {
  objs:=λk o i=>by
   by_cases p:k=id
   .subst p;rw[XY]at i;cases i
    cases K:H k with|none=>grind|some o=>exact⟨(h.objs k o K).1,L⟩
   rw[KB p]at i;have⟨j,m⟩:=h.objs k o i;refine⟨j,m.mono x (.refl g) j rfl λf n=>d f λe=>p ?_⟩;exact h.dist k id b (by grind) s (e▸n) A
  dist:=λk J f j m=>h.dist k J f (c k j) (c J m)
  sep:=λk f j m=>by rw[q];exact h.sep k f (c k j) m
  ilt:=λf n=>by rw[q];exact h.ilt f n
  inew:=h.inew
  os:=y.trans h.os
  tape:=r.trans h.tape
  output:=u.trans h.output
  size:=by rw[q];exact h.size
  kept:=λf j m=>by rw[d f (by grind)];exact h.kept f j m}
theorem RH.putDat{B H w g ow}(h:RH B H w g ow){id t}{xs:V (El t)}(p:g.K id)(r:g.ty id=t)(q:Rd w g.I (.sl t) xs [g.slv id]):
 RH B (ZX H id (Ua (.dat t xs))) w g (Xv ow id λ_=>False) where
 objs:=λk o i=>by
  by_cases c:k=id;.subst c;rw[XY]at i;cases i;exact⟨p,r,q⟩
  rw[KB c]at i;rw[Je c];exact h.objs k o i
 dist:=λk n b f e j m=>by
  by_cases c:k=id;.subst c;rw[Xd]at j;grind
  by_cases d:n=id;.subst d;rw[Xd]at m;grind
  rw[KB c]at f;rw[KB d]at e;rw[Je c]at j;rw[Je d]at m;exact h.dist k n b f e j m
 sep:=λk b f e=>by
  by_cases c:k=id;.subst c;rw[Xd]at e;grind
  rw[KB c]at f;rw[Je c]at e;exact h.sep k b f e
 ilt:=h.ilt
 inew:=h.inew
 os:=h.os
 tape:=h.tape
 output:=h.output
 size:=h.size
 kept:=h.kept
def Gh.grow(g:Gh)(J:Nat->Prop):Gh:={g with I:=λb=>g.I b\/J b}
theorem Gh.le_grow(g:Gh) J:g.Le (g.grow J):=⟨λ_ h=>.inl h,λ_ h=>h,λ_ _=>rfl,λ_ _=>rfl,λ_ _=>rfl,λ_ _=>Vj _,λ_ _ _=>rfl⟩
theorem RH.grow{B H w g ow}(h:RH B H w g ow){J}(hJ:∀b,J b->b<w.heap.size/\(B.I0 b\/B.own0 b\/B.w0.heap.size<=b)/\∀id,H id≠Ub->¬ow id b):RH B H w (g.grow J) ow where
 objs:=λid o e=>⟨(h.objs id o e).1,(h.objs id o e).2.mono (λ_ _=>rfl) (g.le_grow J) (h.objs id o e).1 rfl (by simp)⟩
 dist:=h.dist
 sep:=λid b f i=>⟨λd=>by
  obtain d|d:=d;.exact(h.sep id b f i).1 d
  grind,(h.sep id b f i).2⟩
 ilt:=λb c=>by
  obtain c|c:=c;.exact h.ilt b c
  grind
 inew:=λb c=>by
  obtain c|c:=c;.exact h.inew b c
  grind
 os:=h.os
 tape:=h.tape
 output:=h.output
 size:=h.size
 kept:=h.kept
theorem ZqP{w g ow id t xs}(h:ORel w g ow id (.vec t xs)){I}(p:∀b,g.I b->I b)(hJ:∀b,ow b->I b):
 Rd w I (.sl t) xs [g.slv id]:=by
 have⟨z,y⟩:=h;obtain⟨rfl,q,i⟩|⟨b,cap,cs,e,d,q,f,i,s,k,C,m,n⟩:=y;.rw[i];exact⟨Ub,0,[],rfl,trivial,by simp,Vj _⟩
 rw[i];refine⟨Ua ⟨b,0,Ub⟩,cap,d,rfl,m.mono λx c A=>Rd.mono (λ_ _=>rfl) p t x c A,λ_=>⟨b,0,rfl,hJ b f,?_⟩,k⟩;intro j D;have⟨r,J⟩:=n;simp[Vu,s];have u:j<cs.size:=by grind
 congr 1;have:cs.toList[j]'(by omega)=d.flatten[j]:=by grind
 grind
theorem WF.data{w I J K t xs i}(h:WF w I J t xs i)(p:∀b,I b->K b)(hJ:∀b,J b->K b):Rd w K (.sl t) xs [i]:=by
 obtain⟨rfl,rfl⟩|⟨b,cap,cs,e,d,rfl,f,q,k,y,m,n⟩:=h;.exact⟨Ub,0,[],rfl,trivial,by simp,Vj _⟩
 refine⟨Ua ⟨b,0,Ub⟩,cap,d,rfl,m.mono λx c u=>Rd.mono (λ_ _=>rfl) p t x c u,λ_=>⟨b,0,rfl,hJ b f,?_⟩,k⟩;intro j z;have⟨r,A⟩:=n;simp[Vu,q];have s:j<cs.size:=by grind
 congr 1;have:cs.toList[j]'(by omega)=d.flatten[j]:=by grind
 grind
theorem ZpV{w g ow id t xs v}(h:ORel w g ow id (.rows t xs v Ub)){I}(p:∀b,g.I b->I b)(hJ:∀b,ow b->I b):
 Rd w I (.sl (.sl t)) xs [g.slv id]:=by
 have⟨_,_,d,u⟩:=h;obtain⟨rfl,q,f⟩|⟨b,cap,cs,e,q,c,f,r,m,A,C⟩:=u;.rw[f];exact⟨Ub,0,[],rfl,trivial,by simp,Vj _⟩
 rw[f];refine⟨Ua ⟨b,0,Ub⟩,cap,(Vp xs.length).map λi:Nat=>[g.row id (.int .i64) i],rfl,?_,λ_=>⟨b,0,rfl,hJ b c,?_⟩,m⟩
 .have key:∀n l,(∀i x,l[i]? =Ua x->Rd w I (.sl t) x [g.row id (.int .i64) ((n+i:Nat))])->Fa (Rd w I (.sl t)) l ((List.range' n l.length).map λi:Nat=>[g.row id (.int .i64) i]):=by
   intro n l
   induction l generalizing n with
   |nil=>intro _;trivial|cons x l k=>
    intro h;refine⟨by simpa using h 0 x rfl,?_⟩;have:=k (n+1) λi y J=>by have:=h (i+1) y (by grind);grind
    omega
  have:=key 0 xs λi x z=>by rw[Nat.zero_add];exact(d.rd i x z (by simp)).data p hJ
  simpa[List.range_eq_range'] using this
 intro j D;have s:((Vp xs.length).map λi:Nat=>[g.row id (.int .i64) i]).flatten=(Vp xs.length).map λi:Nat=>g.row id (.int .i64) i:=by
  generalize xs.length=n
  induction n with|zero=>rfl|succ n k=>rw[List.range_succ];grind
 simp[Vu,r];grind
inductive ZE (α:Type):Type 1 where
 |ret (a:α)
 |fail
 |getH (id:Nat) (k:Option Yh->ZE α)
 |opt {β:Type} (o:Option β) (k:β->ZE α)
 |bool (b:Bool) (k:Bool->ZE α)
def ZE.bind{α β}:ZE α->(α->ZE β)->ZE β|.ret a,f=>f a|.fail,_=>.fail|.getH id k,f=>.getH id λo=>(k o).bind f|.opt o k,f=>.opt o λb=>(k b).bind f|.bool b k,f=>.bool b λc=>(k c).bind f
def ZE.runK{α ρ:Type}(H:AH):ZE α->V Nat->(α->V Nat->Option ρ)->Option ρ|.ret a,l,k=>k a l|.fail,_,_=>Ub|.getH id f,l,k=>(f (H id)).runK H (id::l) k|.opt o f,l,k=>o.bind λb=>(f b).runK H l k|.bool b f,l,k=>bif b then(f Uc).runK H l k else(f Ud).runK H l k
def ZE.run{α}(H:AH):ZE α->V Nat->Option (α×V Nat)|.ret a,l=>Ua (a,l)|.fail,_=>Ub|.getH id f,l=>(f (H id)).run H (id::l)|.opt o f,l=>o.bind λb=>(f b).run H l|.bool b f,l=>(f b).run H l
theorem ZE.runK_eq{α ρ} H(k:α->V Nat->Option ρ)(a:ZE α) l:a.runK H l k=(a.run H l).bind λr=>k r.1 r.2:=by
 induction a generalizing l with
 |ret _|fail=>rfl|getH id f c=>exact c _ _|opt o f c=>
  cases o with|none=>rfl|some b=>exact c _ _
 |bool b f c=>cases b<;>exact c _ _
theorem ZE.run_bind{α β} H(f:α->ZE β)(a:ZE α) l:(a.bind f).run H l=(a.run H l).bind λr=>(f r.1).run H r.2:=by
 induction a generalizing l with
 |ret _|fail=>rfl|getH id k c=>exact c _ _|opt o k c=>
  cases o with|none=>rfl|some b=>exact c _ _
 |bool b k c=>exact c _ _
theorem ZE.run_local{α}{H d}(a:ZE α) l r l' (h:a.run H l=Ua (r,l')):
 ∃m,l' =m++l/\((∀id∈m,d id=H id)->a.run d l=Ua (r,l')):=by
 induction a generalizing l with
 |ret a=>
  simp[ZE.run,Vb]at h
  exact⟨[],by simp[h.2],λ_=>by simp[ZE.run,h.1,h.2]⟩|fail=>simp[ZE.run]at h|getH id k c=>
  simp[ZE.run]at h;have⟨m,f,j⟩:=c _ _ h;refine⟨m++[id],by simp[f],λe=>?_⟩;simp[ZE.run];rw[e id (by simp)]
  exact j λi n=>e i (by simp[n])|opt o k c=>
  cases o with
  |none=>simp[ZE.run]at h|some b=>
   simp[ZE.run]at h⊢
   exact c _ _ h
 |bool b k c=>
  simp[ZE.run]at h⊢;exact c _ _ h
def KC t b(x:El t):Option (El b):=if h:t=b then Ua (h▸x) else Ub
def Zo(i:Int)(n:Nat):Option Nat:=if 0<=i/\i<n then Ua i.toNat else Ub
def idx{α:Type}(xs:V α)(i:Int):Option α:=if 0<=i then xs[i.toNat]? else Ub
def Zw(b:Bool):Option Unit:=bif b then Ua () else Ub
abbrev DV:=(t:Ty)×El t
def DD:(t:Ty)->El t->V Nat->ZE DV
 |t,x,[]=>.ret ⟨t,x⟩|.prod a b,x,i::p=>match i with|0=>DD a x.1 p|n+1=>DD b x.2 (n::p)
 |.arr _ t,x,i::p=>.opt x[i]? λy=>DD t y p|_,_,_::_=>.fail
def XC:(t:Ty)->El t->V Nat->DV->ZE (El t)
 |t,_,[],y=>.opt (KC y.1 t y.2) .ret|.prod a b,x,i::p,y=>match i with|0=>(XC a x.1 p y).bind λz=>.ret (z,x.2)|n+1=>(XC b x.2 (n::p) y).bind λz=>.ret (x.1,z)
 |.arr _ t,x,i::p,y=>.opt x[i]? λe=>(XC t e p y).bind λz=>.ret (x.set i z)|_,_,_::_,_=>.fail
def HM:(t:Ty)->El t->ZF|.prod a b,x=>.cons (.d a x.1) (HM b x.2)|_,_=>.nil
mutual
def DC:AV->V Nat->ZE AV|v,[]=>.ret v|.d t x,p=>(DD t x p).bind λy=>.ret (.d y.1 y.2)|.agg l,n::p=>Zga l n p|_,_::_=>.fail
def Zga:ZF->Nat->V Nat->ZE AV|.cons v _,0,p=>DC v p|.cons _ l,n+1,p=>Zga l n p|.nil,_,_=>.fail
end
def AV.dv? :AV->Option DV|.d t x=>Ua ⟨t,x⟩|_=>Ub
def HY:Ty->ZF->Nat->V Nat->AV->ZE ZF
 |.prod a _,.cons u l,0,p,v=>(match p,u with
  |[],_=>bif v.fits a then .ret (.cons v l) else .fail|p,.d t x=>(match v with|.d c y=>(XC t x p ⟨c,y⟩).bind λz=>.ret (.cons (.d t z) l)|_=>.fail)
  |_,_=>.fail)
 |.prod _ b,.cons u l,n+1,p,v=>(HY b l n p v).bind λm=>.ret (.cons u m)|_,_,_,_,_=>.fail
def Zae(t:Ty)(c:AV)(p:V Nat)(v:AV):ZE AV:=
 match p with
 |[]=>bif v.fits t then .ret v else .fail|n::q=>match c with
  |.agg l=>(HY t l n q v).bind λm=>.ret (.agg m)|.d b x=>(match v with|.d e y=>(XC b x (n::q) ⟨e,y⟩).bind λz=>.ret (.d b z)|v=>bif (HM b x).fits t then(HY t (HM b x) n q v).bind λl=>.ret (.agg l) else .fail)
  |_=>.fail
noncomputable section
def Ty.dep:Ty->Nat|.prod a b=>max (a.dep+1) b.dep|.arr _ t|.sl t=>t.dep+1|_=>1
def eqEl:(t:Ty)->El t->El t->Option Bool|.int _,x,y|.str,x,y=>Ua (Ue (x=y))|.bool,x,y=>Ua (x==y)|.unit,_,_=>Ua Uc|.prod a .unit,x,y=>eqEl a x.1 y.1|.prod a b,x,y=>(eqEl a x.1 y.1).bind λp=>(eqEl b x.2 y.2).bind λq=>Ua (p&&q)|.arr _ t,x,y=>(eqs (eqEl t) x y)|_,_,_=>Ub
where eqs {α} (f:α->α->Option Bool):V α->V α->Option Bool
 |[],[]=>Ua Uc|a::l,b::m=>(f a b).bind λp=>(eqs f l m).bind λq=>Ua (p&&q)|_,_=>Ub
def ZT{α β:Type}(eq:α->α->Bool)(k:α):V (α×β)->Option β|[]=>Ub|e::l=>bif eq k e.1 then Ua e.2 else ZT eq k l
def Ky{α β:Type}(eq:α->α->Bool)(k:α)(v:β):V (α×β)->V (α×β)|[]=>[(k,v)]|e::l=>bif eq k e.1 then(k,v)::l else e::Ky eq k v l
def Zs t(x y:El t):Bool:=(eqEl t x y).getD Ud
def Ty.key:Ty->Bool|.int _|.bool|.str|.unit=>Uc|.prod a b=>a.key&&b.key|.arr _ t=>t.key|_=>Ud
def Ty.keyOk(t:Ty):Bool:=t.key&&Vba t.dep 100
mutual
inductive Pat where
 |pd (t:Ty)
 |own (t:Ty) (keep:Bool)
 |var (t:Ty) (p:Pat)
 |ro (t:Ty)
 |map (b c:Ty)
 |rows (t:Ty) (keep:Bool)
 |mrows (b t:Ty)
 |it (b c:Ty)
 |fnd (tn tq lt lb:Ty)
 |owo (lb:Ty)
 |agg (l:Pats)
 |fn (f:FuncId) (l:Pats)
 |nilr
 |nils
 |any
inductive Pats where
 |nil
 |cons (p:Pat) (l:Pats)
end
mutual
@[reducible] def WH:Pat->Type
  |.pd t|.ro t=>El t|.own t _=>V (El t)|.var _ p=>WH p|.map b c|.it b c=>V (El b×El c)|.rows t _=>V (V (El t))|.mrows b t=>V (El b×V (El t))|.fnd tn tq lt lb=>ZS tn tq lt lb|.owo lb=>V (El (.pn lb))|.agg l|.fn _ l=>KX l|.nilr|.nils|.any=>Unit
@[reducible] def KX:Pats->Type
  |.nil=>Unit|.cons p l=>WH p×KX l
end
mutual
@[reducible] def Do:Pat->Type
  |.own t true=>V (El t)|.var _ p=>WH p|.map b c=>V (El b×El c)|.rows t true=>V (V (El t))|.mrows b t=>V (El b×V (El t))|.fnd tn tq lt lb=>ZS tn tq lt lb|.agg l|.fn _ l=>WS l|_=>Unit
@[reducible] def WS:Pats->Type
  |.nil=>Unit|.cons p l=>Do p×WS l
end
def YK(id ver:Nat) c(k:El c):ZE ((t:Ty)×V (El t)):=
 .getH id fun
  |some (.rows t xs v Ub)=>bif Vd v ver then .opt (KC c (.int .i64) k) λi=>.opt (idx xs i) λx=>.ret ⟨t,x⟩ else .fail|some (.mrows b t m v Ub)=>bif Vd v ver&&b.keyOk then .opt (KC c b k) λd=>.ret ⟨t,(ZT (Zs b) d m).getD []⟩ else .fail|_=>.fail
abbrev ZcU(a b:Ty):Ty:=.prod a (.prod (.lk a b) b)
mutual
def Km:(t:Ty)->AV->ZE (El t×V Nat)
 |t,.d c x=>.opt (KC c t x) λy=>.ret (y,[])|.sl _,.nils=>.ret ([],[])|.sl t,.vw id=>.getH id fun
  |some (.vec c xs)=>.opt (KC (.sl c) (.sl t) xs) λy=>.ret (y,[id])|some (.rows c xs _ Ub)=>.opt (KC (.sl (.sl c)) (.sl t) xs) λy=>.ret (y,[id])|some (.dat c xs)=>.opt (KC (.sl c) (.sl t) xs) λy=>.ret (y,[])|_=>.fail
 |.sl t,.nw id ver e k=>(YK id ver e k).bind λr=>.opt (KC (.sl r.1) (.sl t) r.2) λy=>.ret (y,[id])|.sl t,.vs id f n=>.getH id fun
  |some (.vec c xs)=>.opt (KC (.sl c) (.sl t) xs) λy=>.ret ((y.drop f).take n,[id])|_=>.fail
 |t,.agg l=>Yr t l|.pt _,.nilr p=>bif p then .ret (Ub,[]) else .fail|.pt t,.ptr id p=>bif p.isEmpty then .getH id fun
  |some (.var _ (.d c x))=>.opt (KC c t x) λy=>.ret (Ua y,[id])|_=>.fail else .fail
 |.lk _ _,.nilr p=>bif p then .ret ([],[]) else .fail|.lk a b,.dp c x=>.opt (KC c (ZcU a b) x) λy=>.ret ((y.1,y.2.2)::y.2.1,[])|.lk a b,.ptr id p=>bif p.isEmpty then .getH id fun
  |some (.var _ (.d c x))=>.opt (KC c (ZcU a b) x) λy=>.ret ((y.1,y.2.2)::y.2.1,[id])|_=>.fail else .fail
 |.pn _,.nilr p=>bif p then .ret (Ub,[]) else .fail|_,_=>.fail
def Yr:(t:Ty)->ZF->ZE (El t×V Nat)|.unit,.nil=>.ret ((),[])|.prod a b,.cons v l=>(Km a v).bind λx=>(Yr b l).bind λy=>.ret ((x.1,y.1),x.2++y.2)|_,_=>.fail
end
def Zfq(l:V Int):V UInt8:=l.map λn=>UInt8.ofNat n.toNat
def RQ t(x:AV):ZE (V (El t)×V Nat):=
 match x with
 |.vw id=>.getH id fun
  |some (.rows _ _ _ _)=>.fail|_=>Km (.sl t) (.vw id)
 |x=>Km (.sl t) x
def J1 t(v:AV):ZE (V (El t)×V Nat):=
 match v with
 |.vw id=>.getH id fun
  |some (.vec b xs)=>.opt (KC (.sl b) (.sl t) xs) λy=>.ret (y,[id])|_=>.fail
 |.vs id 0 n=>.getH id fun
  |some (.vec b xs)=>.opt (KC (.sl b) (.sl t) xs) λy=>.ret (y.take n,[id])|_=>.fail
 |.nils=>.ret ([],[])|_=>.fail
def R5 lb(v:AV):ZE (V (El (.pn lb))×V Nat):=
 match v with
 |.vw id=>.getH id fun
  |some (.vec c xs)=>.opt (KC (.sl c) (.sl (.pn lb)) xs) λy=>.ret (y,[id])|some (.vco b xs)=>.opt (KC (.sl (.pn b)) (.sl (.pn lb)) xs) λy=>.ret (y,[id])|_=>.fail
 |.nils=>.ret ([],[])|_=>.fail
def YW t(v:AV):ZE (V (V (El t))×V Nat):=
 match v with
 |.vw id=>.getH id fun
  |some (.rows b xs _ Ub)=>.opt (KC (.sl (.sl b)) (.sl (.sl t)) xs) λy=>.ret (y,[id])|_=>.fail
 |.nils=>.ret ([],[])|_=>.fail
def Znf(tn tq lt lb:Ty):Ty:=.prod tn (.prod tq (.prod lt (.prod (.sl (.sl lb)) (.prod (.sl lb) (.sl lb)))))
@[reducible] def ZhI (tn tq lt lb:Ty):Type:=El tn×El tq×El lt×V (V (El (.pn lb)))×V (El (.pn lb))×V (El (.pn lb))
def WG{tn tq lt lb}(b:El lb->Nat)(x:ZS tn tq lt lb):ZhI tn tq lt lb:=(x.1,x.2.1,x.2.2.1,x.2.2.2.1.map λr=>r.map (KA b),x.2.2.2.2.1.map (KA b),x.2.2.2.2.2.map (KA b))
open Classical in
def untag{tn tq lt lb:Ty}(y:ZhI tn tq lt lb):Option (ZS tn tq lt lb):=if h:∃(x:ZS tn tq lt lb) (ad:El lb->Nat),Yl ad x/\y=WG ad x then Ua (Classical.choose h) else Ub
theorem ZzE{tn tq lt lb y}{x:ZS tn tq lt lb}(h:untag y=Ua x):∃b,Yl b x/\y=WG b x:=by
 unfold untag at h;split at h;.rename_i c;have:=Classical.choose_spec c;rw[Kx h]at this;exact this
 cases h
theorem ZkD{lb d c}{l l' :V (El lb)}(h:l.map (KA d)=l'.map (KA c)):l=l' :=by
 have:(l.map (KA d)).map (λz=>z.map Vra)=(l'.map (KA c)).map (λz=>z.map Vra):=by rw[h]
 simp[List.map_map]at this;have e:∀a (k:V (El lb)),k.map ((λz=>z.map Vra) ∘KA a)=k.map some:=λa k=>List.map_congr_left λy _=>rfl;have key:∀(a b:V (El lb)),a.map Ua=b.map Ua->a=b:=by
  intro a
  induction a with
  |nil=>intro b h;cases b with|nil=>rfl|cons _ _=>simp at h
  |cons u a f=>intro b h;cases b with
   |nil=>simp at h|cons v b=>
    simp[Hf]at h;rw[h.1,f b h.2]
 exact key _ _ this
theorem Zzr{tn tq lt lb f c}{x d:ZS tn tq lt lb}(h:WG f x=WG c d):x=d:=by
 have⟨q,s,u,n,y,z⟩:=x;have⟨A,C,D,p,I,J⟩:=d;simp[WG]at h;obtain⟨rfl,rfl,rfl,i,j,k⟩:=h;obtain rfl:=ZkD j;obtain rfl:=ZkD k;have:n=p:=by
  have e:∀(l l' :V (V (El lb))),(l.map λr=>r.map (KA f))=(l'.map λr=>r.map (KA c))->l=l' :=by
   intro l
   induction l with
   |nil=>intro l' h;cases l' with|nil=>rfl|cons a l' =>simp at h
   |cons a l m=>intro l' h;cases l' with
    |nil=>simp at h|cons b l' =>
     simp[Vca]at h;rw[ZkD h.1,m l' h.2]
  exact e _ _ i
 rw[this]
theorem untag_eq{tn tq lt lb c}{x:ZS tn tq lt lb}(h:Yl c x):untag (WG c x)=Ua x:=by have d:∃e b,Yl b e/\WG c x=WG b e:=⟨x,c,h,rfl⟩;unfold untag;rw[dif_pos d];have⟨b,_,f⟩:=Classical.choose_spec d;rw[<-Zzr f]
structure ZI where
 tk:V Nat
 br:V Nat
def ZI.none:ZI:=⟨[],[]⟩
def ZI.app(a b:ZI):ZI:=⟨a.tk++b.tk,a.br++b.br⟩
mutual
def Pat.fits:Pat->Ty->Bool|.pd c,t|.own c _,.sl t|.rows c _,.sl (.sl t)=>c==t|.mrows _ _,.ref|.it _ _,.ref|.fnd _ _ _ _,.ref|.var _ _,.ref|.ro _,.ref|.map _ _,.ref|.fn _ _,.ref|.nilr,.ref|.nils,.sl _=>Uc|.owo lb,.sl t=>t== .pn lb|.agg l,t=>l.fits t|_,_=>Ud
def Pats.fits:Pats->Ty->Bool|.nil,.unit=>Uc|.cons p l,.prod a b=>p.fits a&&l.fits b|_,_=>Ud
end
mutual
def ext:(p:Pat)->AV->ZE (WH p×ZI)
 |.pd t,v=>(Km t v).bind λr=>.ret (r.1,⟨[],r.2⟩)|.own t _,v=>(J1 t v).bind λr=>.ret (r.1,⟨r.2,[]⟩)|.var t p,v=>(match v with
  |.ptr id []=>.getH id fun
   |some (.var b c)=>bif b==t&&p.fits t then(ext p c).bind λr=>.ret (r.1,⟨id::r.2.tk,r.2.br⟩) else .fail|_=>.fail
  |_=>.fail)
 |.ro t,v=>(match v with
  |.ptr id []=>.getH id fun
   |some (.var _ (.d b x))=>.opt (KC b t x) λy=>.ret (y,⟨[],[id]⟩)|_=>.fail
  |.dp b x=>.opt (KC b t x) λy=>.ret (y,ZI.none)|_=>.fail)
 |.map i u,v=>(match v with
  |.mp id=>.getH id fun
   |some (.map k e m)=>.opt (KC (.sl (.prod k e)) (.sl (.prod i u)) m) λy=>.ret (y,⟨[id],[]⟩)|_=>.fail
  |_=>.fail)
 |.rows t _,v=>(YW t v).bind λr=>.ret (r.1,⟨r.2,[]⟩)|.mrows i t,v=>(match v with
  |.mp id=>.getH id fun
   |some (.mrows k b m _ Ub)=>.opt (KC (.sl (.prod k (.sl b))) (.sl (.prod i (.sl t))) m) λy=>.ret (y,⟨[id],[]⟩)|_=>.fail
  |_=>.fail)
 |.it i u,v=>(match v with
  |.ptr id []=>.getH id fun
   |some (.rng k e m _)=>.opt (KC (.sl (.prod k e)) (.sl (.prod i u)) m) λy=>.ret (y,⟨[id],[]⟩)|_=>.fail
  |_=>.fail)
 |.fnd tn tq lt lb,v=>(match v with
  |.ptr id []=>.getH id fun
   |some (.fnd q s n j x)=>.opt (KC (Znf q s n j) (Znf tn tq lt lb) x) λy=>.ret (y,⟨[id],[]⟩)|some (.var t (.agg (.cons L (.cons M (.cons N (.cons O (.cons Q (.cons R .nil))))))))=>bif t==Jn tn tq lt lb then
     (Km tn L).bind λz=>(Km tq M).bind λA=>(Km lt N).bind λC=>(YW (.pn lb) O).bind λD=>(R5 lb Q).bind λI=>(J1 (.pn lb) R).bind λJ=>
       .opt (untag (tn:=tn) (tq:=tq) (lt:=lt) (lb:=lb) (z.1,A.1,C.1,D.1,I.1,J.1)) λy=>.ret (y,⟨id::(D.2++(I.2++J.2)),z.2++(A.2++C.2)⟩) else .fail|_=>.fail
  |_=>.fail)
 |.owo lb,v=>(R5 lb v).bind λr=>.ret (r.1,⟨r.2,[]⟩)|.agg l,v=>(match v with|.agg vs=>WP l vs|.d t x=>bif (HM t x).fits t then WP l (HM t x) else .fail|_=>.fail)
 |.fn f l,v=>(match v with|.fn K h=>bif Vd K f then WP l h else .fail|_=>.fail)
 |.nilr,v=>(match v with|.nilr _=>.ret ((),ZI.none)|_=>.fail)
 |.nils,v=>(match v with|.nils=>.ret ((),ZI.none)|_=>.fail)
 |.any,_=>.ret ((),ZI.none)
def WP:(l:Pats)->ZF->ZE (KX l×ZI)|.nil,.nil=>.ret ((),ZI.none)|.cons p l,.cons v vs=>(ext p v).bind λx=>(WP l vs).bind λy=>.ret ((x.1,y.1),x.2.app y.2)|_,_=>.fail
end
mutual
def inj:(p:Pat)->WH p->Nat->AV×V (Nat×Yh)×Nat|.pd t,x,n=>(.d t x,[],n)|.own t _,x,n=>(.vw n,[(n,.vec t x)],n+1)|.var t p,x,n=>let r:=inj p x (n+1);(.ptr n [],(n,.var t r.1)::r.2.1,r.2.2)|.ro t,x,n=>(.dp t x,[],n)|.map b c,x,n=>(.mp n,[(n,.map b c x)],n+1)|.rows t _,x,n=>(.vw n,[(n,.rows t x 0 Ub)],n+1)|.mrows b t,x,n=>(.mp n,[(n,.mrows b t x 0 Ub)],n+1)|.it b c,x,n=>(.ptr n [],[(n,.rng b c x Ub)],n+1)|.fnd tn tq lt lb,x,n=>(.ptr n [],[(n,.fnd tn tq lt lb x)],n+1)|.owo lb,x,n=>(.vw n,[(n,.vco lb x)],n+1)|.agg l,x,n=>let r:=Z5 l x n;(.agg r.1,r.2)|.fn f l,x,n=>let r:=Z5 l x n;(.fn f r.1,r.2)|.nilr,_,n=>(.nilr Ud,[],n)|.nils,_,n=>(.nils,[],n)|.any,_,n=>(.junk,[],n)
def Z5:(l:Pats)->KX l->Nat->ZF×V (Nat×Yh)×Nat|.nil,_,n=>(.nil,[],n)|.cons p l,x,n=>let r:=inj p x.1 n;let s:=Z5 l x.2 r.2.2;(.cons r.1 s.1,r.2.1++s.2.1,s.2.2)
end
mutual
def Ks:(p:Pat)->AV->Do p->Nat->V (Nat×Option Yh)×Nat|.own t Uc,.vw id,x,n=>([(id,Ua (.vec t x))],n)|.var t p,.ptr id [],x,n=>let r:=inj p x n;((id,Ua (.var t r.1))::r.2.1.map λo=>(o.1,Ua o.2),r.2.2)|.map b c,.mp id,x,n=>([(id,Ua (.map b c x))],n)|.rows t Uc,.vw id,x,n=>([(id,Ua (.rows t x n Ub))],n)|.mrows b t,.mp id,x,n=>([(id,Ua (.mrows b t x n Ub))],n)|.fnd tn tq lt lb,.ptr id [],x,n=>([(id,Ua (.fnd tn tq lt lb x))],n)|.agg l,.agg vs,x,n|.fn _ l,.fn _ vs,x,n=>Xk l vs x n|_,_,_,n=>([],n)
def Xk:(l:Pats)->ZF->WS l->Nat->V (Nat×Option Yh)×Nat|.nil,_,_,n=>([],n)|.cons p l,.cons v vs,x,n=>let r:=Ks p v x.1 n;let s:=Xk l vs x.2 r.2;(r.1++s.1,s.2)|.cons _ _,.nil,_,n=>([],n)
end
structure Spec where
 args:Pats
 res:Pats
 fns:V FuncId
 α:Type
 f:KX args->Option α
 unp:α->WS args×KX res
 pl:Bool:=Uc
 kp:V (Nat×Nat×Nat):=[]
abbrev Wm:=V (Nat×Option Yh)
structure Kh where
 ty:Z->Option Ty
 mty:Z->Option (Ty×Ty)
 rw:Z->Bool:=λ_=>Ud
 zx:Z->Bool:=λ_=>Ud
 bd:Z->Option Z:=λ_=>Ub
 pk:Z->Nat:=λ_=>0
 specs:FuncId->V Spec
 nt:Nat
 ks:V Nat
 pz:Z->Bool:=λ_=>Ud
 st:Nat:=0
 inl:FuncId->Option (Nat->ZF->ZE (AV×Wm)):=λ_=>Ub
def Kh.stp(E:Kh):Nat:=E.st+64
def KW(n:Nat):V Nat->Bool|[]=>Ud|k::l=>Vd n k||KW n l
def G5:V Nat->Bool|[]=>Uc|n::l=> !KW n l&&G5 l
def Xe:V Nat->V Nat->Bool|[],_=>Uc|n::l,m=> !KW n m&&Xe l m
def ZI.ok(i:ZI)(fz:V Nat):Bool:=G5 i.tk&&Xe i.br i.tk&&Xe i.tk fz
def Ty.flat:Ty->Bool|.sl _|.ref|.pt _|.lk _ _|.pn _=>Ud|.prod a b=>a.flat&&b.flat|.arr _ t=>t.flat|_=>Uc
mutual
def Pat.flat:Pat->Bool|.pd t|.own t _|.rows t _=>t.flat|.var _ p=>p.flat|.ro _|.fnd _ _ _ _|.owo _=>Ud|.map b c|.it b c=>b.flat&&c.flat|.mrows b t=>b.flat&&t.flat|.agg l|.fn _ l=>l.flat|.nilr|.nils|.any=>Uc
def Pats.flat:Pats->Bool|.nil=>Uc|.cons p l=>p.flat&&l.flat
end
mutual
def Pat.oflat:Pat->Bool|.own t k|.rows t k=> !k||t.flat|.var _ p=>p.flat|.map b c=>b.flat&&c.flat|.mrows b t=>b.flat&&t.flat|.fnd _ _ _ _=>Ud|.agg l|.fn _ l=>l.oflat|_=>Uc
def Pats.oflat:Pats->Bool|.nil=>Uc|.cons p l=>p.oflat&&l.oflat
end
mutual
def Pat.sz:Pat->Nat|.pd t=>t.size|.agg l=>l.sz|_=>1
def Pats.sz:Pats->Nat|.nil=>0|.cons p l=>p.sz+l.sz
end
mutual
def Pat.noAny:Pat->Bool|.any=>Ud|.var _ p=>p.noAny|.agg l|.fn _ l=>l.noAny|_=>Uc
def Pats.noAny:Pats->Bool|.nil=>Uc|.cons p l=>p.noAny&&l.noAny
end
def Pats.wf:Pats->Bool|.nil=>Uc|.cons .any l=>l.wf|.cons p l=>p.noAny&&l.wf
def ZF.ofList:V AV->ZF|[]=>.nil|v::l=>.cons v (ZF.ofList l)
def ZF.app:ZF->ZF->ZF|.nil,m=>m|.cons v l,m=>.cons v (l.app m)
def ZF.nth:ZF->Nat->Option AV|.nil,_=>Ub|.cons v _,0=>Ua v|.cons _ l,n+1=>l.nth n
def ZdZ:ZF->V FuncId|.nil=>[]|.cons (.fn f _) l=>f::ZdZ l|.cons _ l=>ZdZ l
def ZqC:ZF->AV|.cons v .nil=>v|l=>.tup l
def Wv:Nat:=64
def Zdi(n:Nat):V Nat->ZE Unit
 |[]=>.ret ()|id::l=>.getH id fun
  |some (.rows _ _ v _)|some (.mrows _ _ _ v _)=>bif Vg v n then Zdi n l else .fail|_=>Zdi n l
def ZaK:V Nat->ZE Wm
 |[]=>.ret []|id::l=>.getH id fun
  |some (.vec t xs)=>(ZaK l).bind λp=>.ret ((id,Ua (.dat t xs))::p)|some (.rows t xs _ Ub)=>(ZaK l).bind λp=>.ret ((id,Ua (.dat (.sl t) xs))::p)|_=>ZaK l
def Zik(S:Spec)(nid:Nat)(b:ZF):ZE (AV×Wm):=
 (WP S.args b).bind λr=>
   .opt (Zw (r.2.ok [])) λ_=>(Zdi nid r.2.tk).bind λ_=>(bif S.res.flat&&S.args.oflat then .ret [] else ZaK r.2.br).bind λds=>
    .opt (S.f r.1) λz=>
     let y:=S.unp z
     let p:=Xk S.args b y.1 nid
     let q:=Z5 S.res y.2 p.2
     .opt (Zw (Vba q.2.2 (nid+Wv))) λ_=>.ret (ZqC q.1,(r.2.tk.map λid=>(id,Ub))++(bif S.res.flat&&S.args.oflat then [] else r.2.br.map λid=>(id,Ub))++p.1++(q.2.1.map λo=>(o.1,Ua o.2))++ds)
def Rh(id:Nat):Wm->Option (Option Yh)
 |[]=>Ub|p::l=>match Rh id l with|some o=>Ua o|none=>bif Vd p.1 id then Ua p.2 else Ub
def ZF.putNth:ZF->Nat->AV->ZF|.nil,_,_=>.nil|.cons _ l,0,v=>.cons v l|.cons u l,n+1,v=>.cons u (l.putNth n v)
def Za1:Ty->Nat->Nat|.prod a b,n+1=>a.size+Za1 b n|_,_=>0
def Zjv(e:ZF)(k:Nat×Nat×Nat)(p:Wm):ZE Wm:=
 match e.nth k.1 with
 |some (.ptr b [])=>.getH b fun
  |some (.var T (.agg c))=>(match c.nth k.2.1 with
   |some (.vw d)=>.getH d fun
    |some (.vec t _)=>(match Rh b p with
     |some (Ua (.var f (.agg h)))=>(match h.nth k.2.1 with
      |some (.vw nid)=>(match Rh nid p with|some (Ua (.vec i xs))=>bif i==t&&f==T&&Vd (Za1 T k.2.1) k.2.2&& !Vd nid b&& !Vd d b then .ret (p++[(nid,Ub),(b,Ub),(d,Ua (.vec i xs)),(b,Ua (.var f (.agg (h.putNth k.2.1 (.vw d)))))]) else .fail|_=>.fail)
      |_=>.fail)
     |_=>.fail)
    |_=>.fail
   |_=>.fail)
  |_=>.fail
 |_=>.fail
def Zeb(b:ZF):V (Nat×Nat×Nat)->Wm->ZE Wm|[],p=>.ret p|k::l,p=>(Zjv b k p).bind λq=>Zeb b l q
def Zfr(S:Spec)(nid:Nat)(b:ZF):ZE (AV×Wm):=
 (Zik S nid b).bind λr=>(Zeb b S.kp r.2).bind λp=>.ret (r.1,p)
def Zcq(nid:Nat)(c:ZF):V Spec->ZE (AV×Wm)|[]=>.fail|[S]=>Zfr S nid c|S::l=>(WP S.args c).bind λr=>.bool (S.f r.1).isSome λb=>bif b then Zfr S nid c else Zcq nid c l
def ZaO(fns:V FuncId):V Spec->V Spec|[]=>[]|S::l=>bif S.fns==fns then S::ZaO fns l else ZaO fns l
def Zfk:Y->AV|.bool b=>.d .bool b|.int k n=>.d (.int k) n|.string s=>.d .str s.data.toList|.pointer none=>.nilr Uc|.nilFunc=>.nilr Ud|.map none=>.nilr Ud|.slice Ub 0 0=>.nils|_=>.junk
def Zz(F:Nat->AV):G->AV|.tmp t=>F t|.const v=>Zfk v|.global _=>.junk|.func f=>bif Vg f WO then .fn f .nil else .junk
def Zj7(k:IntKind)(x y:Int):Option Int:=if y=0 then Ub else Ua (k.wrap (x.tdiv y))
def Zj8(x y:Int):Option Int:=if y=0 then Ub else Ua (x.tmod y)
def G8(k:IntKind)(x y:Int):Option Int:=if y<0 then Ub else Ua (k.wrap (x*2 ^ (min y.toNat k.bits)))
def GF(k:IntKind)(x y:Int):Option Int:=if y<0 then Ub else Ua (x.fdiv (2 ^ (min y.toNat k.bits)))
def JA(k:IntKind)(x y:Int):Int:=k.wrap (Vm k.bits x &&& Vm k.bits y).toNat
def Wc(k:IntKind)(x y:Int):Int:=k.wrap (Vm k.bits x ||| Vm k.bits y).toNat
def ZxZ(k:IntKind)(x y:Int):Int:=k.wrap (Vm k.bits x ^^^ Vm k.bits y).toNat
def qandNot(k:IntKind)(x y:Int):Int:=k.wrap (Vm k.bits x &&& ~~~ Vm k.bits y).toNat
def imin(x y:Int):Int:=if y<x then y else x
def imax(x y:Int):Int:=if x<y then y else x
def Zbp(op:BinOp)(k:IntKind)(x y:Int):ZE AV:=
 match op with|.add=>.ret (.d (.int k) (k.wrap (x+y)))|.sub=>.ret (.d (.int k) (k.wrap (x - y)))|.mul=>.ret (.d (.int k) (k.wrap (x*y)))|.quo=>.opt (Zj7 k x y) λz=>.ret (.d (.int k) z)|.rem=>.opt (Zj8 x y) λz=>.ret (.d (.int k) z)|.and=>.ret (.d (.int k) (JA k x y))|.or=>.ret (.d (.int k) (Wc k x y))|.xor=>.ret (.d (.int k) (ZxZ k x y))|.andNot=>.ret (.d (.int k) (qandNot k x y))|.shl=>.opt (G8 k x y) λz=>.ret (.d (.int k) z)|.shr=>.opt (GF k x y) λz=>.ret (.d (.int k) z)|.eql=>.ret (.d .bool (Ue (x=y)))|.neq=>.ret (.d .bool (!Ue (x=y)))|.lss=>.ret (.d .bool (Ue (x<y)))|.leq=>.ret (.d .bool (Ue (x<=y)))|.gtr=>.ret (.d .bool (Ue (y<x)))|.geq=>.ret (.d .bool (Ue (y<=x)))
def catStr(x y:V UInt8):Option (V UInt8):=bif Ue (x.length+y.length<2 ^ 62) then Ua (x++y) else Ub
def Zib(op:BinOp)(x y:V UInt8):ZE AV:=
 match op with|.add=>.opt (catStr x y) λz=>.ret (.d .str z)|.eql=>.ret (.d .bool (Ue (x=y)))|.neq=>.ret (.d .bool (!Ue (x=y)))|.lss=>.ret (.d .bool (Op.bytesLess x y))|.gtr=>.ret (.d .bool (!(Op.bytesLess x y||decide (x=y))))|.leq=>.ret (.d .bool (Op.bytesLess x y||decide (x=y)))|.geq=>.ret (.d .bool (!Op.bytesLess x y))|_=>.fail
def ZnE:AV->Bool|.dp _ _|.ptr _ _|.vp _ _ _|.np _ _ _ _ _ _|.mp _|.fn _ _=>Uc|_=>Ud
def ZhX(θ:Z->Option Ty)(T:Z)(op:BinOp)(x y:AV):ZE AV:=
 match x,y with
 |.d (.int k) a,.d (.int e) b=>(match op with|.shl=>Zbp .shl k a b|.shr=>Zbp .shr k a b|op=>bif k==e then Zbp op k a b else .fail)
 |.d .str a,.d .str b=>Zib op a b|.d t a,.d c b=>(match op with|.eql=>bif θ T==Ua t&&Vba t.dep 100 then .opt (KC c t b) λb=>.opt (eqEl t a b) λr=>.ret (.d .bool r) else .fail|.neq=>bif θ T==Ua t&&Vba t.dep 100 then .opt (KC c t b) λb=>.opt (eqEl t a b) λr=>.ret (.d .bool (!r)) else .fail|_=>.fail)
 |_,_=>.fail
def Zgw(k:Nat)(v:AV)(y:G):Bool:=match y with
 |.const (.pointer Ub)=>Vd k 1&&(match v with|.ptr _ _=>Uc|_=>Ud)
 |.const .nilFunc=>Vd k 2&&(match v with|.fn _ _=>Uc|_=>Ud)
 |.const (.map Ub)=>Vd k 3&&(match v with|.mp _=>Uc|_=>Ud)
 |_=>Ud
def aun(op:UnOp)(x:AV):ZE AV:=
 match op,x with|.not,.d .bool b=>.ret (.d .bool (!b))|.neg,.d (.int k) n=>.ret (.d (.int k) (k.wrap (0 - n)))|_,_=>.fail
def zeroEl:(t:Ty)->El t|.int _=>0|.bool=>Ud|.str|.sl _|.lk _ _=>([])|.unit|.ref=>()|.prod a b=>(zeroEl a,zeroEl b)|.arr n t=>Vy n (zeroEl t)|.pt _|.pn _=>Ub
def Ty.data:Ty->Bool|.ref=>Ud|.pt t|.pn t|.sl t|.arr _ t=>t.data|.lk a b|.prod a b=>a.data&&b.data|_=>Uc
def ZhB:Ty->AV|.ref=>.nilr Ud|.sl _=>.nils|a=>.jk a.size
def Ty.isSl:Ty->Bool|.sl _=>Uc|_=>Ud
def H5(z:Bool)(a:Ty):AV:=bif a.data&&(z|| !a.isSl) then .d a (zeroEl a) else ZhB a
def Ru(z:Bool):Ty->ZF|.prod a b=>.cons (H5 z a) (Ru z b)|_=>.nil
def Yg(t:Ty):AV:=
 bif t.data&& !t.isSl then .d t (zeroEl t) else match t with|.ref=>.nilr Ud|.sl _=>.nils|.prod a b=>.agg (Ru Ud (.prod a b))|t=>.jk t.size
def ZeQ(x:Bool)(t:Ty):AV:=bif x then(match t with|.prod a b=>.agg (Ru Ud (.prod a b))|t=>Yg t) else Yg t
def ZaH(z:Bool)(parts:V (Nat×AV)):Ty->Nat->ZF|.prod a b,n=>.cons ((parts.lookup n).getD (H5 z a)) (ZaH z parts b (n+1))|_,_=>.nil
def DJ:ZF->Option DV
 |.nil=>Ua ⟨.unit,()⟩|.cons (.d t x) l=>match DJ l with|some ⟨u,y⟩=>Ua ⟨.prod t u,(x,y)⟩|none=>Ub
 |_=>Ub
def Zeh(l:ZF):AV:=match DJ l with|some ⟨t,x⟩=>.d t x|none=>.agg l
def Zbt t(parts:V (Nat×AV)):Nat->Nat->Option (V (El t))
 |0,_=>Ua []|m+1,n=>match (parts.lookup n).getD (.d t (zeroEl t)) with|.d b x=>(KC b t x).bind λy=>(Zbt t parts m (n+1)).bind λl=>Ua (y::l)|_=>Ub
def Zf8(e:Ty):V (Nat×AV)->ZE (V (Nat×AV)×V Nat)|[]=>.ret ([],[])|p::l=>(Km e p.2).bind λx=>(Zf8 e l).bind λr=>.ret ((p.1,.d e x.1)::r.1,x.2++r.2)
def fieldsOf:Ty->Nat|.prod _ b=>fieldsOf b+1|_=>0
def Ty.isStruct:Ty->Bool|.prod _ _|.unit=>Uc|_=>Ud
def Zt:Nat:=2 ^ 39
def Zlh(t:Ty)(nid:Nat)(s x:AV):ZE (AV×Wm):=
 (J1 t s).bind λr=>(RQ t x).bind λy=>
   .opt (Zw (Ue (r.1.length+y.1.length<=Zt))) λ_=>
    .ret (.vw nid,(r.2.map λid=>(id,Ub))++[(nid,Ua (.vec t (r.1++y.1)))])
def Ze9(id nid:Nat) c(k:El c):ZE Yh:=
 .getH id fun
  |some (.rows t xs v Ub)=>bif Vg v nid then .opt (KC c (.int .i64) k) λi=>.ret (.rows t xs nid (Ua i.toNat)) else .fail|some (.mrows b t m v Ub)=>bif Vg v nid then .opt (KC c b k) λd=>.ret (.mrows b t m nid (Ua d)) else .fail|_=>.fail
def ZhY(id:Nat) d(k:El d) t(row:V (El t)):ZE Yh:=
 .getH id fun
  |some (.rows c xs v Ub)=>.opt (KC d (.int .i64) k) λi=>.opt (KC (.sl t) (.sl c) row) λy=>.ret (.rows c (xs.set i.toNat y) v Ub)|some (.mrows b c m v Ub)=>.opt (KC d b k) λe=>.opt (KC (.sl t) (.sl c) row) λy=>.ret (.mrows b c (Ky (Zs b) e y m) v Ub)|_=>.fail
def Zli(t:Ty)(nid id ver:Nat) b(k:El b)(x:AV):ZE (AV×Wm):=
 (YK id ver b k).bind λr=>.opt (KC (.sl r.1) (.sl t) r.2) λxs=>(RQ t x).bind λy=>
   .opt (Zw (Ue (xs.length+y.1.length<=Zt))) λ_=>.opt (Zw (!KW id y.2)) λ_=>(Ze9 id nid b k).bind λo=>
    .ret (.vw nid,[(id,Ua o),(nid,Ua (.vec t (xs++y.1)))])
def Zlj(t:Ty)(nid:Nat)(s x:AV):ZE (AV×Wm):=
 (YW t s).bind λr=>(YW t x).bind λy=>
   .opt (Zw (Ue (r.1.length+y.1.length<=Zt))) λ_=>.opt (Zw (G5 (r.2++y.2))) λ_=>
    .ret (.vw nid,((r.2++y.2).map λid=>(id,Ub))++[(nid,Ua (.rows t (r.1++y.1) 0 Ub))])
def Zfp t(parts:V (Nat×AV)):Nat->Nat->ZE (V (V (El t))×V Nat)|0,_=>.ret ([],[])|m+1,n=>(J1 t ((parts.lookup n).getD .nils)).bind λx=>(Zfp t parts m (n+1)).bind λy=>.ret (x.1::y.1,x.2++y.2)
def ZaS(h:Option Nat)(i:Nat):Bool:=match h with|none=>Uc|some j=>Vd j i
def holeK b(h:Option (El b))(k:El b):Bool:=match h with|none=>Uc|some j=>Zs b j k
def JV:Option Ty->Bool|some (.sl _)=>Uc|_=>Ud
def Zlr(t:Option Ty)(mp:Bool)(v:AV):ZE AV:=
 match v with
 |.d (.sl _) xs=>bif JV t then .ret (.d (.int .i64) (xs.length:Int)) else .fail|.d .str xs=>bif t==Ua .str then .ret (.d (.int .i64) (xs.length:Int)) else .fail|.nils=>bif JV t then .ret (.d (.int .i64) (0:Int)) else .fail|.vs _ _ n=>bif JV t then .ret (.d (.int .i64) (n:Int)) else .fail|.vw id=>bif JV t then .getH id fun
  |some (.vec _ xs)|some (.rows _ xs _ _)|some (.dat _ xs)|some (.vco _ xs)=>.ret (.d (.int .i64) (xs.length:Int))|_=>.fail else .fail
 |.nw id ver b k=>bif JV t then(YK id ver b k).bind λr=>.ret (.d (.int .i64) (r.2.length:Int)) else .fail|.mp id=>bif mp then .getH id fun
  |some (.map _ _ m)=>.ret (.d (.int .i64) (m.length:Int))|_=>.fail else .fail
 |_=>.fail
def DL(n:Nat):V Nat->Bool|[]=>Uc|i::l=>Vba (i+1) n&& !(l.contains i)&&DL n l
def Zcg(f:Int->Int->Int)(k:IntKind):Int->V AV->ZE AV|a,[]=>.ret (.d (.int k) a)|a,.d (.int c) b::l=>bif c==k then Zcg f k (f a b) l else .fail|_,_=>.fail
def AV.solid:AV->Bool|.jk _=>Ud|_=>Uc
def K1(v:AV):Option Int:=match v with|.d (.int _) n=>Ua n|_=>Ub
def sliceB(len cap:Nat)(c b:Option Int):Option (Nat×Nat):=
 let h:Option Nat:=match b with|some x=>if 0<=x/\x<=cap then Ua x.toNat else Ub|none=>Ua len
 h.bind λh=>match c with|some x=>if 0<=x/\x<=h then Ua (x.toNat,h) else Ub|none=>Ua (0,h)
def X5(b:G->AV):Option G->Bool|some x=>(K1 (b x)).isSome|none=>Uc
def HG:AV->Option Nat|.d t _=>Ua t.size|.dp _ _|.ptr _ _|.vp _ _ _|.mp _|.fn _ _|.nilr _|.nils|.vw _|.vs _ _ _|.nw _ _ _ _|.np _ _ _ _ _ _=>Ua 1|_=>Ub
def Zcu(v:AV):Bool:= !v.isAgg&&(match HG v with|some n=>Vd n 1|none=>Ud)
def RT:ZF->Bool|.nil=>Uc|.cons v l=>Zcu v&&RT l
def Zek:V AV->Bool|[]=>Uc|.tup _::_=>Ud|_::l=>Zek l
def ZP(E:Kh)(nid:Nat)(op:Op)(_rt:Z)(A:G->AV):ZE (AV×Wm):=
 match op with
 |.move x|.assign x=>.ret (A x,[])|.pick c a b=>(match A c with|.d .bool t=>.bool t λt=>.ret (bif t then A a else A b,[])|_=>.fail)
 |.alloc T=>.opt (E.ty T) λt=>.ret (.ptr nid [],[(nid,Ua (.var t (ZeQ (E.zx T) t)))])|.box T x=>.opt (E.ty T) λt=>bif (A x).fits t then .ret (.ptr nid [],[(nid,Ua (.var t (A x)))]) else .fail|.build T O=>.opt (E.ty T) λt=>(match t with|.prod a b=>bif !DL (fieldsOf (.prod a b)) (O.toList.map (·.1)) then .fail else let l:=ZaH (Ty.data (.prod a b)&& !E.zx T) (O.toList.map λp=>(p.1,A p.2)) (.prod a b) 0;bif l.fits (.prod a b) then(bif E.rw T then(Km (.prod a b) (Zeh l)).bind λr=>.ret (.d (.prod a b) r.1,r.2.map λid=>(id,Ub)) else .ret (Zeh l,[])) else .fail|.arr n e=>bif !DL n (O.toList.map (·.1)) || !e.data then .fail else .opt (Zbt e (O.toList.map λp=>(p.1,A p.2)) n 0) λl=>.ret (.d (.arr n e) l,[])|_=>.fail)
 |.buildSlice T n O=>.opt (E.ty T) λt=>(match t with
  |.sl e=>bif E.rw T then(match e with|.sl Q=>bif !DL n (O.toList.map (·.1)) ||Vg (2 ^ 24) n then .fail else(Zfp Q (O.toList.map λp=>(p.1,A p.2)) n 0).bind λr=>.opt (Zw (G5 r.2)) λ_=>.ret (.vw nid,(r.2.map λid=>(id,Ub))++[(nid,Ua (.rows Q r.1 0 Ub))])|_=>.fail) else bif !DL n (O.toList.map (·.1)) || !e.data||Vg (2 ^ 24) (n*e.size) then .fail else(Zf8 e (O.toList.map λp=>(p.1,A p.2))).bind λr=>.opt (Zbt e r.1 n 0) λl=>(ZaK r.2).bind λds=>.ret (.vw nid,(r.2.map λid=>(id,Ub))++[(nid,Ua (.vec e l))]++ds)
  |_=>.fail)
 |.load T a=>.opt (E.ty T) λt=>(match A a with
  |.dp R x=>bif R==t then .ret (.d R x,[]) else .fail|.ptr id p=>.getH id fun
   |some (.var _ c)=>(DC c p).bind λv=>bif v.fits t&&v.solid then .ret (v,[]) else .fail|some (.fnd W tq lt _ x)=>(DC (Zf5 W tq lt x) p).bind λv=>bif v.fits t&&v.solid then .ret (v,[]) else .fail|_=>.fail
  |.vp id i p=>.getH id fun
   |some (.vec _ xs)=>.opt xs[i]? λx=>(DD _ x p).bind λv=>bif v.1==t then .ret (.d v.1 v.2,[]) else .fail|some (.rows J xs v Ub)=>bif p.isEmpty&&t== .sl J then .opt xs[i]? λ_=>.ret (.nw id v (.int .i64) (i:Int),[]) else .fail|_=>.fail
  |.np id ver D k i p=>(YK id ver D k).bind λr=>.opt r.2[i]? λx=>(DD _ x p).bind λv=>bif v.1==t then .ret (.d v.1 v.2,[]) else .fail|_=>.fail)
 |.store T a x=>.opt (E.ty T) λt=>bif (A x).fits t then(match A a with
  |.ptr id p=>.getH id fun
   |some (.var J c)=>(Zae J c p (A x)).bind λc' =>.ret (.junk,[(id,Ua (.var J c'))])|_=>.fail
  |.vp id i p=>.getH id fun
   |some (.vec J xs)=>.opt xs[i]? λe=>.opt (A x).dv? λy=>(XC J e p y).bind λQ=>.ret (.junk,[(id,Ua (.vec J (xs.set i Q)))])|some (.rows J xs v h)=>bif p.isEmpty&&t== .sl J&&Vg v nid then .opt (Zw (ZaS h i)) λ_=>.opt xs[i]? λ_=>(J1 J (A x)).bind λr=>.ret (.junk,(r.2.map λid=>(id,Ub))++[(id,Ua (.rows J (xs.set i r.1) nid Ub))]) else .fail|_=>.fail
  |.np id ver D k i p=>(YK id ver D k).bind λr=>.opt r.2[i]? λe=>.opt (A x).dv? λy=>(XC r.1 e p y).bind λQ=>(ZhY id D k r.1 (r.2.set i Q)).bind λo=>.ret (.junk,[(id,Ua o)])|_=>.fail) else .fail
 |.nilCheck x=>bif ZnE (A x) then .ret (A x,[]) else .fail|.binOp op T x y _=>bif Zgw (E.pk T) (A x) y then(match op with|.eql=>.ret (.d .bool Ud,[])|.neq=>.ret (.d .bool Uc,[])|_=>.fail) else(ZhX E.ty T op (A x) (A y)).bind λv=>.ret (v,[])
 |.unOp op _ x=>(aun op (A x)).bind λv=>.ret (v,[])|.convert S T x=>.opt (E.ty S) λs=>.opt (E.ty T) λt=>(match t,A x with|.int k,.d (.int _) n=>.ret (.d (.int k) (k.wrap n),[])|.str,v=>bif s== .sl (.int .u8) then(RQ (.int .u8) v).bind λr=>.ret (.d .str (Zfq r.1),[]) else .fail|_,_=>.fail)
 |.makeFunc (.func f) first I=>bif first.isEmpty&&Vg f WO&&RT (ZF.ofList (I.toList.map A)) then .ret (.fn f (ZF.ofList (I.toList.map A)),[]) else .fail
 |.makeMap T r=>.opt (E.mty T) λm=>bif E.rw T then(match m with
   |(D,.sl t)=>bif D.keyOk&&(match r with|none=>Uc|some x=>(K1 (A x)).isSome) then .ret (.mp nid,[(nid,Ua (.mrows D t [] 0 Ub))]) else .fail
   |_=>.fail) else bif m.1.keyOk&&(match r with|none=>Uc|some x=>(K1 (A x)).isSome) then .ret (.mp nid,[(nid,Ua (.map m.1 m.2 []))]) else .fail
 |.makeSlice T l c=>.opt (E.ty T) λt=>(match t,A l,A c with
  |.sl e,.d (.int _) n,.d (.int _) m=>bif E.rw T then(match e with|.sl Q=>.opt (Zw (Ue (0<=n/\n<=m/\m<=Zt))) λ_=>.ret (.vw nid,[(nid,Ua (.rows Q (Vy n.toNat []) 0 Ub))])|_=>.fail) else bif !e.data then .fail else .opt (Zw (Ue (0<=n/\n<=m/\m<=Zt))) λ_=>.ret (.vw nid,[(nid,Ua (.vec e (Vy n.toNat (zeroEl e))))])
  |_,_,_=>.fail)
 |.slice T x K N none=>bif !(X5 A K&&X5 A N) then .fail else(match A x with
  |.d (.sl t) xs=>bif !(E.ty T==Ua (.sl t)) then .fail else .opt (sliceB xs.length xs.length (K.bind λo=>K1 (A o)) (N.bind λo=>K1 (A o))) λr=>.ret (.d (.sl t) ((xs.drop r.1).take (r.2 - r.1)),[])|.d .str xs=>bif !(E.ty T==Ua .str) then .fail else .opt (sliceB xs.length xs.length (K.bind λo=>K1 (A o)) (N.bind λo=>K1 (A o))) λr=>.ret (.d .str ((xs.drop r.1).take (r.2 - r.1)),[])|.nils=>(match E.ty T with|some (.sl _)=>.opt (sliceB 0 0 (K.bind λo=>K1 (A o)) (N.bind λo=>K1 (A o))) λ_=>.ret (.nils,[])|_=>.fail)
  |.vw id=>.getH id fun
   |some (.vec t xs)=>bif !(E.ty T==Ua (.sl t)) then .fail else .opt (sliceB xs.length xs.length (K.bind λo=>K1 (A o)) (N.bind λo=>K1 (A o))) λr=>(match K with|none=>.ret (.vs id 0 r.2,[]) |some _=>.ret (.vs id r.1 (r.2 - r.1),[]))
   |some (.dat t xs)=>bif !(E.ty T==Ua (.sl t)) then .fail else .opt (sliceB xs.length xs.length (K.bind λo=>K1 (A o)) (N.bind λo=>K1 (A o))) λr=>.ret (.d (.sl t) ((xs.drop r.1).take (r.2 - r.1)),[])|_=>.fail
  |_=>.fail)
 |.slice T x K (Ua N) (Ua mx)=>bif !(X5 A K&&X5 A (Ua N)) then .fail else(match A x with
  |.vw id=>.getH id fun
   |some (.vec t xs)=>bif !(E.ty T==Ua (.sl t)) then .fail else .opt (K1 (A mx)) λm=>.opt (Zo m (xs.length+1)) λm=>.opt (sliceB xs.length m (K.bind λo=>K1 (A o)) (K1 (A N))) λr=>(match K with|none=>.ret (.vs id 0 r.2,[]) |some _=>.ret (.vs id r.1 (r.2 - r.1),[]))
   |_=>.fail
  |_=>.fail)
 |.fieldAddr T x f=>.opt (E.ty T) λt=>.opt (ZV t [f]) λr=>bif Vd r.2.size 0|| !t.isStruct then .fail else(match A x with
  |.dp R y=>bif R==t then(DD R y [f]).bind λv=>.ret (.dp v.1 v.2,[]) else .fail|.ptr id p=>.getH id fun
   |some (.var J _)=>.opt (H3 J p) λq=>bif q==t then .ret (.ptr id (p++[f]),[]) else .fail|some (.fnd W tq lt lb _)=>bif (match p with|[]=>Jn W tq lt lb==t||Yx W tq lt lb==t|i::_=>Vg i 3&&H3 (Jn W tq lt lb) p==Ua t) then .ret (.ptr id (p++[f]),[]) else .fail
   |_=>.fail
  |.vp id i p=>.getH id fun
   |some (.vec J _)=>.opt (ZV J p) λq=>bif q.2==t then .ret (.vp id i (p++[f]),[]) else .fail|_=>.fail
  |.np id ver D k i p=>(YK id ver D k).bind λs=>.opt (ZV s.1 p) λq=>bif q.2==t then .ret (.np id ver D k i (p++[f]),[]) else .fail|_=>.fail)
 |.field T x f=>.opt (E.ty T) λt=>.opt (ZV t [f]) λr=>bif !t.isStruct|| !(A x).fits t|| !(A x).solid then .fail else(DC (A x) [f]).bind λv=>bif v.fits r.2&&v.solid then .ret (v,[]) else .fail|.indexAddr T x i=>.opt (E.ty T) λM=>(match A x,A i with
  |.d (.sl t) xs,.d (.int _) n=>bif M== .sl t then .opt (idx xs n) λy=>.ret (.dp t y,[]) else .fail|.vw id,.d (.int _) n=>.getH id fun
   |some (.vec t xs)=>bif M== .sl t then .opt (Zo n xs.length) λj=>.ret (.vp id j [],[]) else .fail|some (.rows t xs _ _)=>bif M== .sl (.sl t) then .opt (Zo n xs.length) λj=>.ret (.vp id j [],[]) else .fail|some (.dat t xs)=>bif M== .sl t then .opt (idx xs n) λy=>.ret (.dp t y,[]) else .fail|_=>.fail
  |.nw id ver D k,.d (.int _) n=>(YK id ver D k).bind λr=>bif M== .sl r.1 then .opt (Zo n r.2.length) λj=>.ret (.np id ver D k j [],[]) else .fail|.vs id K m,.d (.int _) n=>.getH id fun
   |some (.vec t xs)=>bif M== .sl t then .opt (Zw (Ue (K+m<=xs.length))) λ_=>.opt (Zo n m) λj=>.ret (.vp id (K+j) [],[]) else .fail|_=>.fail
  |.dp (.arr m t) xs,.d (.int _) n=>bif M== .arr m t then .opt (idx xs n) λy=>.ret (.dp t y,[]) else .fail|.ptr id p,.d (.int _) n=>.getH id fun
   |some (.var J _)=>.opt (ZV J p) λq=>(match q.2 with|.arr m t=>bif M== .arr m t then .opt (Zo n m) λj=>.ret (.ptr id (p++[j]),[]) else .fail|_=>.fail)
   |_=>.fail
  |_,_=>.fail)
 |.index T x i=>.opt (E.ty T) λM=>(match A x,A i with|.d (.arr m t) xs,.d (.int _) n=>bif M== .arr m t&& !Vd t.size 0 then .opt (idx xs n) λy=>.ret (.d t y,[]) else .fail|.d .str xs,.d (.int _) n=>bif M== .str then .opt (idx xs n) λy=>.ret (.d (.int .u8) (y.toNat:Int),[]) else .fail|_,_=>.fail)
 |.lookup T m k ok=>.opt (E.mty T) λmt=>(match A m,A k with
  |.mp id,.d D x=>.getH id fun
   |some (.map C L es)=>bif C.keyOk&&mt.1==C&&mt.2==L&&L.data then .opt (KC D C x) λy=>
     .ret (bif ok then .tup (.cons (.d L ((ZT (Zs C) y es).getD (zeroEl L))) (.cons (.d .bool (ZT (Zs C) y es).isSome) .nil)) else .d L ((ZT (Zs C) y es).getD (zeroEl L)),[]) else .fail|some (.mrows C t m v Ub)=>bif C.keyOk&&mt.1==C&&mt.2== .sl t then .opt (KC D C x) λy=>
     .ret (bif ok then .tup (.cons (.nw id v C y) (.cons (.d .bool (ZT (Zs C) y m).isSome) .nil)) else .nw id v C y,[]) else .fail|_=>.fail
  |_,_=>.fail)
 |.mapUpdate T m k v=>.opt (E.mty T) λmt=>(match A m,A k,A v with
  |.mp id,.d D x,.d L z=>.getH id fun
   |some (.map C a0 es)=>bif C.keyOk&&mt.1==C then .opt (KC D C x) λy=>.opt (KC L a0 z) λu=>.ret (.junk,[(id,Ua (.map C a0 (Ky (Zs C) y u es)))]) else .fail|_=>.fail
  |.mp id,.d D x,.vw i2=>.getH id fun
   |some (.mrows C t es u h)=>bif C.keyOk&&mt.1==C&&mt.2== .sl t&&Vg u nid then .opt (KC D C x) λy=>.opt (Zw (holeK C h y)) λ_=>(J1 t (.vw i2)).bind λr=>
     .ret (.junk,(r.2.map λid=>(id,Ub))++[(id,Ua (.mrows C t (Ky (Zs C) y r.1 es) nid Ub))]) else .fail|_=>.fail
  |_,_,_=>.fail)
 |.range T x=>.opt (E.mty T) λ_=>(match A x with
  |.mp id=>.getH id fun
   |some (.map D L m)=>.ret (.ptr nid [],[(id,Ub),(nid,Ua (.rng D L m Ub))])|_=>.fail
  |_=>.fail)
 |.next it false=>(match A it with
  |.ptr id []=>.getH id fun
   |some (.rng _ _ [] _)=>.ret (.tup (.cons (.d .bool Ud) .nil),[])|_=>.fail
  |_=>.fail)
 |.entry it=>(match A it with
  |.ptr id []=>.getH id fun
   |some (.rng D L _ (Ua e))=>.ret (.tup (.cons (.d D e.1) (.cons (.d L e.2) .nil)),[])|_=>.fail
  |_=>.fail)
 |.extract t i=>(match A t with|.tup l=>.opt (l.nth i) λv=>.ret (v,[])|_=>.fail)
 |.call c=>(match c.callee with
  |.builtin .len=>(match c.args.toList,c.argTypes[0]? with|[x],Ua T=>(Zlr (E.ty T) (E.mty T).isSome (A x)).bind λv=>.ret (v,[])|_,_=>.fail)
  |.builtin .min=>(match c.args.toList with
   |x::l=>(match A x with|.d (.int k) a=>(Zcg imin k a (l.map A)).bind λv=>.ret (v,[])|_=>.fail)
   |_=>.fail)
  |.builtin .max=>(match c.args.toList with
   |x::l=>(match A x with|.d (.int k) a=>(Zcg imax k a (l.map A)).bind λv=>.ret (v,[])|_=>.fail)
   |_=>.fail)
  |.builtin .append=>(match c.args.toList,(c.argTypes[0]?).bind E.ty with
   |[s,x],Ua (.sl t)=>bif !JV ((c.argTypes[1]?).bind E.ty) then .fail else bif (c.argTypes[0]?).any E.rw then(match t with
      |.sl R=>Zlj R nid (A s) (A x)|_=>.fail) else(match A s with
      |.nw id ver D k=>Zli t nid id ver D k (A x)|s=>Zlh t nid s (A x))
   |_,_=>.fail)
  |.value f=>(match A f with
   |.fn f I=>bif !(RT I&&Zek (c.args.toList.map A)) then .fail else let U:=bif Vg f WO then(ZF.ofList (c.args.toList.map A)).app I else I.app (ZF.ofList (c.args.toList.map A))
    Zcq nid U (ZaO (ZdZ U) (E.specs (GV f)))|_=>.fail)
  |_=>.fail)
 |_=>.fail
def Zgx(v:AV):ZE Bool:=
 match v with
 |.nils=>.ret Uc|.d (.sl _) xs=>.opt (Zw (!xs.isEmpty)) λ_=>.ret Ud|.vw id=>.getH id fun
  |some (.vec _ xs)=>.opt (Zw (!xs.isEmpty)) λ_=>.ret Ud|_=>.fail
 |_=>.fail
def unc{α β:Type}:V (α×β)->Option (α×V (α×β)×β)|[]=>Ub|y::l=>Ua (y.1,l,y.2)
def Zea:Option Ty->Bool|some (.pt _)|some (.lk _ _)|some (.pn _)=>Uc|_=>Ud
def AV.isPtD:AV->Bool|.d (.pt _) _|.d (.lk _ _) _|.d (.pn _) _=>Uc|_=>Ud
def ZaL(v:AV):ZE AV:=match v with|.d (.pt t) o=>.opt o λy=>.ret (.dp t y)|.d (.lk a b) l=>.opt (unc l) λy=>.ret (.dp (ZcU a b) y)|.d (.pn t) o=>.opt o λy=>.ret (.dp t y.2)|_=>.fail
def ZgL(v:AV):Option Bool:=match v with|.d (.pt _) o=>Ua o.isNone|.d (.lk _ _) l=>Ua l.isEmpty|.d (.pn _) o=>Ua o.isNone|_=>Ub
def Jf(E:Kh)(nid:Nat)(op:Op)(rt:Z)(e:G->AV):ZE (AV×Wm):=
 match op with
 |.indexAddr T x i=>(match e x,e i with
  |.vw id,.d (.int _) n=>.getH id fun
   |some (.vco h xs)=>bif E.ty T==Ua (.sl (.pn h)) then .opt (Zo n xs.length) λj=>.ret (.op id j,[]) else .fail|_=>ZP E nid (.indexAddr T x i) rt e
  |_,_=>ZP E nid (.indexAddr T x i) rt e)
 |.slice T x k z C=>(match e x,C with
  |.vw id,none=>.getH id fun
   |some (.vco h xs)=>bif !(E.ty T==Ua (.sl (.pn h))) || !(X5 e k&&X5 e z) then .fail else .opt (sliceB xs.length xs.length (k.bind λo=>K1 (e o)) (z.bind λo=>K1 (e o))) λr=>.ret (.vw nid,[(id,Ub),(nid,Ua (.vco h ((xs.drop r.1).take (r.2 - r.1))))])|_=>ZP E nid (.slice T x k z C) rt e
  |.ptr id [],none=>.getH id fun
   |some (.var D (.d (.arr n t) xs))=>bif !(X5 e k&&X5 e z) || !(E.ty T==Ua (.arr n t)) || !(D== .arr n t) then .fail else .opt (sliceB n n (k.bind λo=>K1 (e o)) (z.bind λo=>K1 (e o))) λr=>.ret (.d (.sl t) ((xs.drop r.1).take (r.2 - r.1)),[(id,Ub)])|_=>ZP E nid (.slice T x k z C) rt e
  |_,_=>ZP E nid (.slice T x k z C) rt e)
 |.nilCheck x=>bif (e x).isPtD then(ZaL (e x)).bind λ_=>.ret (e x,[]) else ZP E nid op rt e|.fieldAddr T x f=>bif (e x).isPtD then(ZaL (e x)).bind λv=>ZP E nid (.fieldAddr T x f) rt λ_=>v else ZP E nid op rt e|.call c=>(match c.callee with
  |.builtin .clear=>(match c.args.toList,(c.argTypes[0]?).bind E.ty with
   |[x],Ua (.sl t)=>(match e x with
    |.vs id k n=>.getH id fun
     |some (.vec A xs)=>bif A==t&&A.data then .opt (Zw (Ue (k+n<=xs.length))) λ_=>.ret (.tup .nil,[(id,Ua (.vec A (xs.take k++Vy n (zeroEl A)++xs.drop (k+n))))]) else .fail|_=>.fail
    |_=>.fail)
   |_,_=>.fail)
  |.builtin .append=>(match c.args.toList,(c.argTypes[0]?).bind E.ty with
   |[s,x],Ua (.sl (.pn h))=>(match e s with
    |.vw id=>.getH id fun
     |some (.vco I xs)=>bif !JV ((c.argTypes[1]?).bind E.ty) then .fail else .opt (KC (.sl (.pn I)) (.sl (.pn h)) xs) λxs=>(RQ (.pn h) (e x)).bind λy=>
       .opt (Zw (Ue (xs.length+y.1.length<=Zt))) λ_=>.ret (.vw nid,[(id,Ub),(nid,Ua (.vco h (xs++y.1)))])|_=>ZP E nid op rt e
    |_=>ZP E nid op rt e)
   |_,_=>ZP E nid op rt e)
  |_=>ZP E nid op rt e)
 |.makeFunc fn first m=>bif first.isEmpty then ZP E nid (.makeFunc fn first m) rt e else(match fn with
  |.func f=>bif m.isEmpty&&RT (ZF.ofList (first.toList.map e)) then .ret (.fn (f+WO) (ZF.ofList (first.toList.map e)),[]) else .ret (.junk,[])
  |_=>.ret (.junk,[]))
 |.load T a=>bif (e a).isPtD then(ZaL (e a)).bind λv=>ZP E nid (.load T a) rt λ_=>v else(match e a with
  |.op id j=>.getH id fun
   |some (.vco h xs)=>bif E.ty T==Ua (.pn h) then .opt xs[j]? λx=>.ret (.d (.pn h) x,[]) else .fail|_=>.fail
  |_=>ZP E nid op rt e)
 |.store T a x=>bif (Zea (E.ty T) ||JV (E.ty T)&&E.zx T)&& !(e x).isPtD then .opt (E.ty T) λt=>(Km t (e x)).bind λr=>(match e a with
   |.ptr id p=>bif KW id r.2 then .fail else .getH id fun
    |some (.var D c)=>(Zae D c p (.d t r.1)).bind λJ=>.ret (.junk,(r.2.map λi=>(i,Ub))++[(id,Ua (.var D J))])|_=>.fail
   |_=>.fail) else ZP E nid op rt e
 |.binOp b T x y _=>(match e x,e y with
  |.d t p,.nilr true=>.opt (ZgL (.d t p)) λr=>bif E.ty T==Ua t then(match b with|.eql=>.ret (.d .bool r,[])|.neq=>.ret (.d .bool (!r),[])|_=>.fail) else .fail
  |.d (.pn t) p,.d (.pn A) q=>bif E.ty T==Ua (.pn t)&&A==t&& !Vd t.size 0 then(match b with|.eql=>.ret (.d .bool (Ue (p.map Vf=q.map Vf)),[])|.neq=>.ret (.d .bool (!Ue (p.map Vf=q.map Vf)),[])|_=>.fail) else .fail
  |u,.nils=>bif JV (E.ty T) then(Zgx u).bind λr=>(match b with|.eql=>.ret (.d .bool r,[])|.neq=>.ret (.d .bool (!r),[])|_=>.fail) else ZP E nid op rt e
  |_,_=>ZP E nid op rt e)
 |op=>ZP E nid op rt e
end
theorem Zi1{w I i t}(k:∀x y c,Rd w I t x c->Rd w i t y c->x=y):∀xs d css b,Fa (Rd w I t) xs css->Fa (Rd w i t) d b->xs.length=d.length->css.flatten=b.flatten->xs=d|[],[],_,_,_,_,_,_=>rfl|[],_::_,_,_,_,_,h,_|_::_,[],_,_,_,_,h,_=>by simp at h|_::_,_::_,[],_,h,_,_,_|_::_,_::_,_::_,[],_,h,_,_=>by simp[Fa]at h|x::xs,y::d,c::css,j::b,h,f,n,m=>by have e:c.length=j.length:=(Rd.length t x c h.1).trans (Rd.length t y j f.1).symm;obtain⟨rfl,p⟩:=Vw m e;rw[k x y c h.1 f.1,Zi1 k xs d css b h.2 f.2 (by simpa using n) p]
theorem Zn1{w b off l m}(h:KH w b off l)(c:KH w b off m)(f:l.length=m.length):l=m:=by refine List.ext_getElem f λj d e=>?_;have:=(h j d).symm.trans (c j e);exact Kx this
theorem Zpl{w I f a b}(q:∀x y c,Rd w I a x c->Rd w f a y c->x=y)(r:∀x y c,Rd w I b x c->Rd w f b y c->x=y):
 ∀x y cs,Y7 w I (Rd w I a) (Rd w I b) x cs->Y7 w f (Rd w f a) (Rd w f b) y cs->x=y
 |[],[],_,_,_=>rfl|[],y::l,cs,h,i=>by
  have⟨_,_,_,_,_,d,_⟩:=i
  rw[h]at d;simp at d|x::l,[],cs,h,i=>by
  have⟨_,_,_,_,_,d,_⟩:=h
  rw[i]at d;simp at d|x::l,y::m,cs,h,i=>by have⟨p,off,D,cl,J,d,_,S,L,M,N⟩:=h;have⟨p',O,s,Q,z,j,_,A,k,e,n⟩:=i;rw[d]at j;obtain⟨rfl,rfl⟩:=j;obtain⟨u,rfl⟩:=Y7.length M;obtain⟨u',rfl⟩:=Y7.length e;have K:=(Rd.length a x.1 D L).trans (Rd.length a y.1 s k).symm;have R:=(Rd.length b x.2 J N).trans (Rd.length b y.2 z n).symm;have U:=Zn1 S A (by simp[K,R]);obtain⟨rfl,C⟩:=Vw U K;obtain⟨W,rfl⟩:=Vw C (by simp);rw[<-W]at e;have k1:=q x.1 y.1 D L k;have k2:=r x.2 y.2 J N n;have k3:=Zpl q r l m _ M e;rw[k3,Vva k1 k2]
theorem Rd.det{w I M}:∀t x y cs,Rd w I t x cs->Rd w M t y cs->x=y
 |.int _,x,y,cs,h,i=>by
  simp[Rd]at h i;rw[h]at i;simp at i
  exact i|.bool,x,y,cs,h,i=>by
  simp[Rd]at h i;rw[h]at i;simp at i
  exact i|.str,x,y,cs,h,i=>by
  simp[Rd]at h i;rw[h]at i;simp at i
  exact i|.sl t,x,y,cs,h,i=>by
  have⟨a,cap,s,j,z,r,_⟩:=h;have⟨U,K,m,f,k,d,_⟩:=i;rw[j]at f;simp[and_true]at f;obtain⟨rfl,A,rfl⟩:=f;by_cases J:x=[]
  .subst J
   cases y with|nil=>rfl|cons b l=>simp at A
  obtain⟨b,off,rfl,_,R⟩:=r J;have⟨N,L,S,_,D⟩:=d (λe=>J (by subst e;cases x with|nil=>rfl|cons _ _=>simp at A));obtain⟨rfl,rfl⟩:=S;refine Zi1 (λx y c p q=>Rd.det t x y c p q) x y s m z k A (Zn1 R D ?_)
  rw[Hm (Rd.all_length z),Hm (Rd.all_length k),<-z.length,<-k.length,A]
 |.unit,_,_,_,_,_=>rfl|.prod a b,x,y,cs,h,i=>by
  obtain⟨W,c2,rfl,z,r⟩:=h;have⟨d1,d2,f,k,d⟩:=i;obtain⟨rfl,rfl⟩:=Vw f ((Rd.length a _ _ z).trans (Rd.length a _ _ k).symm)
  exact Vva (Rd.det a _ _ _ z k) (Rd.det b _ _ _ r d)|.arr n t,x,y,cs,h,i=>by
  obtain⟨j,s,rfl,r⟩:=h;have⟨f,m,k,d⟩:=i
  exact Zi1 (λx y c p q=>Rd.det t x y c p q) x y s m r d (j.trans f.symm) k|.ref,_,_,_,h,_=>h.elim|.pt t,x,y,cs,h,i=>by
  cases x with
  |none=>cases y with
   |none=>rfl|some y=>
    have⟨_,_,_,j,_⟩:=i
    rw[h]at j;simp at j
  |some x=>cases y with
   |none=>
    have⟨_,_,_,j,_⟩:=h
    rw[i]at j;simp at j|some y=>
    have⟨b,c,e,j,_,r,C⟩:=h;have⟨N,O,Q,f,_,d,u⟩:=i;rw[j]at f;simp[and_true]at f;obtain rfl:=f;rw[r]at d;injection d with d;injection d with d;subst d
    exact congrArg Ua (Rd.det t x y _ C u)
 |.lk a b,x,y,cs,h,i=>by exact Zpl (λx y c p q=>Rd.det a x y c p q) (λx y c p q=>Rd.det b x y c p q) x y cs h i|.pn t,x,y,cs,h,i=>by
  cases x with
  |none=>cases y with
   |none=>rfl|some y=>
    have⟨_,_,j,_⟩:=i
    rw[h]at j;simp at j
  |some x=>cases y with
   |none=>
    have⟨_,_,j,_⟩:=h
    rw[i]at j;simp at j|some y=>
    have⟨c,e,j,_,r,C⟩:=h;have⟨O,Q,f,_,d,u⟩:=i;rw[j]at f;simp[Hf,Value.pointer.injEq,Z4,Addr.mk.injEq]at f;rw[<-f,r]at d;injection d with d;injection d with d;subst d;exact congrArg Ua (Vva f (Rd.det t x.2 y.2 _ C u))
noncomputable section
structure AS where
 F:Nat->AV
 H:AH
 nx:Nat
 fz:V Nat
def XX(F:Nat->AV)(n:Nat)(v:AV):Nat->AV:=λk=>bif Vd k n then v else F k
def W9(F:Nat->AV)(d:Option Nat)(v:AV):Nat->AV:=match d with|some n=>XX F n v|none=>F
def Zdh:AV:=.tup .nil
def Zu(H:AH):Wm->AH|[]=>H|p::l=>Zu (ZX H p.1 p.2) l
inductive Ex where
 |normal
 |exit (id:Nat)
 |ret
 |jump (l:Nat)
def Ex.beq:Ex->Ex->Bool|.normal,.normal|.ret,.ret=>Uc|.exit a,.exit b|.jump a,.jump b=>Vd a b|_,_=>Ud
def Js{b τ:Type}(step:b->Option (b ⊕ τ)):Nat->b->Option τ
 |0,_=>Ub|n+1,s=>match step s with|some (.inl c)=>Js step n c|some (.inr r)=>Ua r|none=>Ub
open Classical in
def run{σ τ:Type}(step:σ->Option (σ ⊕ τ))(s:σ):Option τ:=
 match Js step 100000 s with|some r=>Ua r|none=>if h:∃r n,Js step n s=Ua r then Ua h.choose else Ub
def H6{b τ ρ:Type}(cnt:b->Nat)(step:b->Nat->Option (b ⊕ τ))(k:τ->Option ρ)(z:ρ):Nat->b->Prop|0,_=>False|n+1,s=>∀i,i<cnt s->(∃c,step s i=Ua (.inl c)/\H6 cnt step k z n c)\/∃t,step s i=Ua (.inr t)/\k t=Ua z
def ZdP{b τ ρ:Type}(cnt:b->Nat)(step:b->Nat->Option (b ⊕ τ))(k:τ->Option ρ):Nat->b->Option ρ
 |0,_=>Ub|n+1,s=>bif Vba (cnt s) 1 then(match step s 0 with|some (.inl c)=>ZdP cnt step k n c|some (.inr t)=>k t|none=>Ub) else Ub
open Classical in
def drun{σ τ ρ:Type}(cnt:σ->Nat)(step:σ->Nat->Option (σ ⊕ τ))(k:τ->Option ρ)(s:σ):Option ρ:=
 match ZdP cnt step k 1000 s with|some r=>Ua r|none=>if h:∃z n,H6 cnt step k z n s then Ua h.choose else Ub
structure Gf where
 i:Nat
 rd:V Nat
 wr:V Nat
def Hs(E:Kh):Option Nat->Bool|some d=>Vg d E.nt&& !KW d E.ks|none=>Uc
def Hg(E:Kh)(ops:Array Oper)(base:Nat)(fz:V Nat) ρ:V (Oper×Nat)->(Nat->AV)->AH->V Gf->((Nat->AV)->AH->V Gf->Option ρ)->Option ρ
 |[],F,H,c,k=>k F H c|(o,i)::rest,F,H,c,k=>
  let go:=λF=>bif Hs E o.dst then
   (Jf E (base+i*E.stp) o.op o.type (Zz F)).runK H [] λr rd=>
     bif Xe (r.2.map Vf) fz then
      Hg E ops base fz ρ rest (W9 F o.dst r.1) (Zu H r.2) (⟨i,rd,r.2.map Vf⟩::c) k else Ub else Ub
  let skip:=λF=>bif Hs E o.dst then Hg E ops base fz ρ rest (W9 F o.dst Zdh) H c k else Ub
  match o.guard with
  |none=>go F|some (j,want)=>match (ops[j]?).bind (·.dst) with
   |none=>Ub|some g=>match F g with
    |.d .bool b=>bif b then(bif want then go (XX F g (.d .bool Uc)) else skip (XX F g (.d .bool Uc)))
      else(bif want then skip (XX F g (.d .bool Ud)) else go (XX F g (.d .bool Ud)))|.tup .nil=>skip F|_=>Ub
def Zb1:V G->V Nat|[]=>[]|.tmp t::l=>t::Zb1 l|_::l=>Zb1 l
def DX(ops:Array Oper)(o:Oper):V Nat:=
 (match o.guard with|some (j,_)=>((ops[j]?).bind (·.dst)).toList|none=>[])++Zb1 o.op.operands.toList
def Zg3(ops:Array Oper)(a b:Oper):Bool:=
 (match a.dst with
   |some d=> !KW d (DX ops b)&&(match b.dst with|some e=> !Vd d e|none=>Uc)
   |none=>Uc)&&
 (match b.dst with|some d=> !KW d (DX ops a)|none=>Uc)
def YY(i:Nat):V Gf->Option Gf|[]=>Ub|t::l=>bif Vd t.i i then Ua t else YY i l
def Zqy(c:V Gf)(i j:Nat):Bool:=
 match YY i c,YY j c with|some a,Ua b=>Xe a.wr b.rd&&Xe a.wr b.wr&&Xe b.wr a.rd|_,_=>Uc
def Zhi(ops:Array Oper):V (Nat×Nat):=
 let b:=Region.before ops
 (Vp ops.size).flatMap λj=>(Vp j).filterMap λi=>if (b.getD j 0).testBit i then Ub else Ua (i,j)
def ZyW(ops:Array Oper):Bool:=(Zhi ops).all λp=>match ops[p.1]?,ops[p.2]? with|some a,Ua b=>Zg3 ops a b|_,_=>Uc
def ZiS(ops:Array Oper):Bool:=ops.toList.zipIdx.all λp=>p.1.after.all λe=> !Region.binds .any e||Vg e.on p.2
def Zcy(ops:Array Oper)(b:V Gf):Bool:=
 ZiS ops&&ZyW ops&&(b.all (λt=>t.wr.isEmpty) || (Zhi ops).all λp=>Zqy b p.1 p.2)
@[reducible] def ElT:V (Nat×Ty)->Type
  |[]=>Unit|[(_,t)]=>El t|(_,t)::p::l=>El t×ElT (p::l)
def ZcY(F:Nat->AV):(l:V (Nat×Ty))->Option (ElT l)
 |[]=>Ua ()|[(n,t)]=>(match F n with|.d b x=>KC b t x|_=>Ub)
 |(n,t)::p::l=>(match F n with|.d b x=>(KC b t x).bind λy=>(ZcY F (p::l)).bind λz=>Ua (y,z)|_=>Ub)
def inT(F:Nat->AV):(l:V (Nat×Ty))->ElT l->Nat->AV|[],_=>F|[(n,t)],x=>XX F n (.d t x)|(n,t)::p::l,x=>inT (XX F n (.d t x.1)) (p::l) x.2
def Zju(l:V Nat)(F:Nat->AV):Nat->AV:=λk=>bif KW k l then .junk else F k
def ZfQ(ops:V Oper):V Nat:=ops.filterMap (·.dst)
def Zka(E:Kh)(ops:Array Oper)(draw:Bool)(outs:Option (V (Nat×Ty))) ρ(s:AS)(k:AS->Option ρ):Option ρ:=
 let nx:=s.nx+ops.size*E.stp
 match outs with
 |none=>Hg E ops s.nx s.fz ρ ops.toList.zipIdx s.F s.H [] λF H b=>bif !draw||Zcy ops b then k ⟨F,H,nx,s.fz⟩ else Ub|some l=>(Hg E ops s.nx s.fz (ElT l) ops.toList.zipIdx s.F s.H [] λF _ b=>bif (!draw||Zcy ops b)&&b.all (λt=>t.wr.isEmpty) then ZcY F l else Ub).bind
   λx=>k ⟨inT (Zju (ZfQ ops.toList) s.F) l x,s.H,nx,s.fz⟩
structure XZ where
 roots:V (Nat×Pat)
 fns:V (Nat×FuncId×V Nat):=[]
 kept:V Nat:=[]
 als:V (Nat×Nat):=[]
 kf:V (Nat×Nat×Nat):=[]
 kv:V Nat:=[]
@[reducible] def Yi:V (Nat×Pat)->Type
  |[]=>Unit|[(_,p)]=>WH p|(_,p)::q::l=>WH p×Yi (q::l)
def ZdU(F:Nat->AV):(l:V (Nat×Pat))->ZE (Yi l×ZI)|[]=>.ret ((),ZI.none)|[(n,p)]=>ext p (F n)|(n,p)::q::l=>(ext p (F n)).bind λx=>(ZdU F (q::l)).bind λy=>.ret ((x.1,y.1),x.2.app y.2)
def WL:(l:V (Nat×Pat))->Yi l->Nat->V (Nat×AV)×V (Nat×Yh)×Nat|[],_,n=>([],[],n)|[(m,p)],x,n=>let r:=inj p x n;([(m,r.1)],r.2.1,r.2.2)|(m,p)::q::l,x,n=>let r:=inj p x.1 n;let s:=WL (q::l) x.2 r.2.2;((m,r.1)::s.1,r.2.1++s.2.1,s.2.2)
def ZaZ:V (Nat×AV)->Nat->AV|[],_=>.junk|p::l,k=>bif Vd k p.1 then p.2 else ZaZ l k
def WM:V (Nat×Yh)->AH|[],_=>Ub|p::l,k=>bif Vd k p.1 then Ua p.2 else WM l k
def AV.box? :AV->Option Nat|.ptr id []=>Ua id|_=>Ub
def RS(F:Nat->AV):ZF->V Nat->Bool
 |.nil,[]=>Uc|.cons v l,n::m=>(match v.box?,(F n).box? with|some a,Ua b=>Vd a b|_,_=>Ud)&&RS F l m
 |_,_=>Ud
def Zd0(F:Nat->AV):V (Nat×FuncId×V Nat)->Bool
 |[]=>Uc|(n,f,l)::m=>(match F n with|.fn c b=>Vd c f&&RS F b l|_=>Ud)&&Zd0 F m
def Zh0(F:Nat->AV):V (Nat×FuncId×V Nat)->Nat->AV|[]=>F|(n,f,l)::m=>XX (Zh0 F m) n (.fn f (ZF.ofList (l.map F)))
def Zh7(x y:AV):Bool:=match x,y with|.vw a,.vw b|.mp a,.mp b|.ptr a [],.ptr b []=>Vd a b|.nils,.nils=>Uc|_,_=>Ud
def Zdz(F:Nat->AV):V (Nat×Nat)->Bool|[]=>Uc|p::l=>Zh7 (F p.1) (F p.2)&&Zdz F l
def ZhZ(F:Nat->AV):V (Nat×Nat)->Nat->AV|[]=>F|p::l=>XX (ZhZ F l) p.1 (F p.2)
def AV.boxes:ZF->V Nat|.nil=>[]|.cons v l=>v.box?.toList++AV.boxes l
def ZF.ls:ZF->V AV|.nil=>[]|.cons v l=>v::l.ls
def RX(H:AH):Nat->AV->V Nat
 |0,_=>[]|n+1,v=>match v with
  |.ptr id []=>id::(match H id with|some (.var _ c)=>RX H n c|_=>[])
  |.vw id|.nw id _ _ _|.mp id=>[id]|.agg l=>l.ls.flatMap (RX H n)|_=>[]
def DE(s:AS):V Nat->V Nat
 |[]=>[]|n::l=>(match s.F n with|.fn _ b=>AV.boxes b|v=>RX s.H 8 v)++DE s l
def XR(H:AH)(id:Nat):Bool:=match H id with|some (.var _ _)|some (.vec _ _)|some (.map _ _ _)|some (.rows _ _ _ Ub)|some (.mrows _ _ _ _ Ub)|some (.rng _ _ _ _)|some (.dat _ _)|some (.vco _ _)=>Uc|_=>Ud
def Zfn(H:AH):ZF->Bool
 |.nil=>Uc|.cons v l=>(match v with|.ptr id []=>XR H id|.dp _ _|.d _ _=>Uc|_=>Ud)&&Zfn H l
def G0(s:AS):V Nat->Bool
 |[]=>Uc|n::l=>(match s.F n with|.d _ _|.dp _ _|.nilr _|.nils=>Uc|.ptr id []=>(RX s.H 8 (.ptr id [])).all (XR s.H)|.vw id|.nw id _ _ _|.mp id=>XR s.H id|.fn _ b=>Zfn s.H b|_=>Ud)&&G0 s l
def Z2(b:AS)(e:XZ):V Nat:=DE b e.kept++b.fz
def Ww(E:Kh)(e:XZ):Kh:={E with ks:=e.kept++(e.kv++E.ks)}
def Zj0(fz:V Nat)(e:XZ)(s:AS):Option (Yi e.roots):=
 (ZdU s.F e.roots).runK s.H [] λr _=>bif r.2.ok fz&&Xe r.2.br fz&&Zd0 s.F e.fns&&Zdz s.F e.als then Ua r.1 else Ub
def ZcK(b:AS)(fz:V Nat)(e:XZ)(x:Yi e.roots):AS:=
 let r:=WL e.roots x b.nx
 ⟨ZhZ (Zh0 (λk=>bif KW k e.kept then b.F k else ZaZ r.1 k) e.fns) e.als,λid=>bif KW id (Z2 b e) then b.H id else WM r.2.1 id,r.2.2,fz⟩
def Gw(s:AS)(k:Nat×Nat×Nat):Option Nat:=match s.F k.1 with
 |.ptr id []=>(match s.H id with
  |some (.var T (.agg c))=>(match c.nth k.2.1 with|some (.vw a)=>bif Vd (Za1 T k.2.1) k.2.2 then Ua a else Ub|_=>Ub)
  |_=>Ub)
 |_=>Ub
def Zec(b s:AS):V (Nat×Nat×Nat)->Bool
 |[]=>Uc|k::l=>(match Gw b k,Gw s k with|some x,Ua y=>Vd x y|_,_=>Ud)&&Zec b s l
def Za3(b:AS)(fz:V Nat)(k:Nat×Nat×Nat)(s:AS):AS:=match Gw b k,Gw s k,s.F k.1 with
 |some a,Ua d,.ptr id []=>(match s.H id,s.H d,b.H a with
  |some (.var T (.agg c)),Ua (.vec t xs),Ua (.vec e _)=>bif e==t&& !Vd d id&& !Vd a id&& !KW a fz&& !KW d fz&& !KW id fz then
    {s with H:=ZX (ZX (ZX (ZX s.H d Ub) id Ub) a (Ua (.vec t xs))) id (Ua (.var T (.agg (c.putNth k.2.1 (.vw a)))))} else s
  |_,_,_=>s)
 |_,_,_=>s
def Za4(b:AS)(fz:V Nat):V (Nat×Nat×Nat)->AS->AS|[],s=>s|k::l,s=>Za4 b fz l (Za3 b fz k s)
def Zh1(b:AS):V Nat->(Nat->AV)->Nat->AV|[],F=>F|n::l,F=>Zh1 b l (XX F n (b.F n))
def Yb(b:AS)(fz:V Nat)(e:XZ)(s:AS):Option (Yi e.roots):=bif Zec b s e.kf then Zj0 fz e s else Ub
def Xy(b:AS)(fz:V Nat)(e:XZ)(x:Yi e.roots):AS:=
 let s:=Za4 b (Z2 b e) e.kf (ZcK b fz e x)
 ⟨Zh1 b e.kv s.F,s.H,s.nx,fz⟩
abbrev Zao:=V (Ex×XZ)
@[reducible] def H8:Zao->Type
  |[]=>Empty|[e]=>Yi e.2.roots|e::f::l=>Yi e.2.roots ⊕ H8 (f::l)
def YU(b:AS)(fz:V Nat):(J:Zao)->Ex->AS->Option (H8 J)|[],_,_=>Ub|[e],x,s=>bif x.beq e.1 then Yb b fz e.2 s else Ub|e::f::l,x,s=>bif x.beq e.1 then(Yb b fz e.2 s).bind λy=>Ua (.inl y) else(YU b fz (f::l) x s).bind λy=>Ua (.inr y)
def Zal{ρ:Type}(b:AS):(J:Zao)->H8 J->(Ex->AS->Option ρ)->Option ρ
 |[],_,_=>Ub|[e],y,k=>k e.1 (Xy b b.fz e.2 y)|e::f::l,y,k=>match y with|.inl y=>k e.1 (Xy b b.fz e.2 y)|.inr y=>Zal b (f::l) y k
def XZ.slots(e:XZ):V Nat:=e.roots.map Vf++e.fns.map Vf++e.kept
def GZ(e:XZ):Zao->Bool|[]=>Uc|f::l=>f.2.kept.all (λn=>KW n e.kept)&&f.2.kv.all (λn=>KW n e.kv)&&G5 f.2.slots&&GZ e l
inductive Wf where
 |leaf
 |seq (a b:Wf)
 |cnd (J:Option (XZ×Zao)) (a b:Wf)
 |lp (e:XZ) (J:Zao) (h:Wf)
 |lpd (it:Nat) (e:XZ) (J:Zao) (h:Wf)
 |reg (outs:V (Nat×Ty))
 |all (n:Nat)
 |det (n:Nat) (a b:Wf)
def Wf.l:Wf->Wf|.seq a _|.det _ a _|.cnd _ a _=>a|.all n=>.all n|_=>.leaf
def Wf.r:Wf->Wf|.seq _ b|.det _ _ b|.cnd _ _ b=>b|.all n=>.all n|_=>.leaf
def Wf.dt:Wf->Option Nat|.det n _ _=>Ua n|_=>Ub
def ZiM(n:Nat){ρ}(s:AS)(go:AS->Option ρ):Option ρ:=match s.F n with
 |.nw id ver b k=>bif KW id s.fz then Ub else(YK id ver b k).runK s.H [] λr _=>(Ze9 id s.nx b k).runK s.H [] λo _=>
   go ⟨XX s.F n (.vw s.nx),ZX (ZX s.H id (Ua o)) s.nx (Ua (.vec r.1 r.2)),s.nx+1,s.fz⟩|_=>Ub
def ZiN(h:Wf){ρ}(s:AS)(go:AS->Option ρ):Option ρ:=match h.dt with|none=>go s|some n=>ZiM n s go
def Wf.join:Wf->Option (XZ×Zao)|.cnd J _ _=>J|_=>Ub
def Wf.outs:Wf->Option (V (Nat×Ty))|.reg l=>Ua l|_=>Ub
def Zab(it:Nat)(s:AS):Nat:=match s.F it with
 |.ptr id []=>(match s.H id with|some (.rng _ _ rest _)=>bif rest.isEmpty then 1 else rest.length|_=>1)
 |_=>1
def ZbQ(E:Kh)(ops:Array Oper)(it i:Nat) ρ(s:AS)(k:AS->Option ρ):Option ρ:=
 match ops.toList.zipIdx with
 |[]=>Ub|(o,_)::l=>(match o.op,o.guard,o.dst with
  |.next (.tmp b) Ud,Ub,Ua d=>bif Vd b it&&Hs E (Ua d) then(match s.F it with
   |.ptr id []=>(match s.H id with
    |some (.rng c f rest _)=>bif KW id s.fz then Ub else
      bif rest.isEmpty then Hg E ops s.nx s.fz ρ l (W9 s.F (Ua d) (.tup (.cons (.d .bool Ud) .nil))) s.H [] λF H _=>k ⟨F,H,s.nx+ops.size*E.stp,s.fz⟩
      else(rest[i]?).bind λe=>Hg E ops s.nx s.fz ρ l (W9 s.F (Ua d) (.tup (.cons (.d .bool Uc) (.cons (.d c e.1) (.cons (.d f e.2) .nil)))))
       (ZX s.H id (Ua (.rng c f (rest.eraseIdx i) (Ua e)))) [] λF H _=>k ⟨F,H,s.nx+ops.size*E.stp,s.fz⟩|_=>Ub)
   |_=>Ub) else Ub
  |_,_,_=>Ub)
def Zhj{ρ:Type}(f:AS->(Ex->AS->Option ρ)->Option ρ)(k:Ex->AS->Option ρ):Nat->AS->Option ρ
 |0,_=>Ub|n+1,s=>f s λe b=>match e with|.normal=>Zhj f k n b|e=>k e b
def Kr:Code->Wf->Kh->(ρ:Type)->AS->(Ex->AS->Option ρ)->Option ρ
 |.skip,_,_,_,s,k|.label _,_,_,_,s,k=>k .normal s|.scope c,h,E,ρ,s,k=>Kr c h E ρ s λe f=>match e with|.jump _=>Ub|e=>k e f
 |.goto l,_,_,_,s,k=>k (.jump l) s|.region _ ops draw,h,E,ρ,s,k=>Zka E ops draw h.outs ρ s (k .normal)|.seq a b,h,E,ρ,s,k=>ZiN h s λs=>Kr a h.l E ρ s λe f=>match e with|.normal=>Kr b h.r E ρ f k|e=>k e f
 |.cond c a b,h,E,ρ,s,k=>match Zz s.F c with
  |.d .bool t=>(match h.join with
   |none=>bif t then Kr a h.l E ρ s k else Kr b h.r E ρ s k|some (e,J)=>bif G0 s e.kept&&GZ e J then
     (let j:AS:={s with fz:=Z2 s e}
      bif t then Kr a h.l (Ww E e) (H8 J) j (YU s (Z2 s e) J) else Kr b h.r (Ww E e) (H8 J) j (YU s (Z2 s e) J)).bind λo=>Zal s J o k
    else Ub)
  |_=>Ub
 |.block id c,h,E,ρ,s,k=>Kr c h E ρ s λe f=>match e with|.exit i=>bif Vd i id then k .normal f else k (.exit i) f|e=>k e f
 |.loop c,h,E,ρ,s,k=>match h with
  |.all n=>Zhj (λs k=>Kr c (.all n) E ρ s k) k n s|.lp en J m=>bif G0 s en.kept&&GZ en J&&G5 en.slots then
    (Yb s (Z2 s en) en s).bind λx=>(run (λy=>Kr c m (Ww E en) (Yi en.roots ⊕ H8 J) (Xy s (Z2 s en) en y) λe f=>match e with|.normal=>(Yb s (Z2 s en) en f).bind λz=>Ua (.inl z)|e=>(YU s (Z2 s en) J e f).bind λz=>Ua (.inr z)) x).bind λo=>Zal s J o k
   else Ub
  |.lpd it en J m=>(match c with
   |.seq (.region _ ops Ud) p=>bif G0 s en.kept&&GZ en J&&G5 en.slots then
     (Yb s (Z2 s en) en s).bind λx=>drun (λy=>Zab it (Xy s (Z2 s en) en y)) (λy i=>ZbQ (Ww E en) ops it i (Yi en.roots ⊕ H8 J) (Xy s (Z2 s en) en y) λj=>Kr p m (Ww E en) (Yi en.roots ⊕ H8 J) j λe f=>match e with|.normal=>(Yb s (Z2 s en) en f).bind λz=>Ua (.inl z)|e=>(YU s (Z2 s en) J e f).bind λz=>Ua (.inr z)) (λo=>Zal s J o k) x
    else Ub
   |_=>Ub)
  |_=>Ub
 |.exit id,_,_,_,s,k=>k (.exit id) s|.ret,_,_,_,s,k=>k .ret s|_,_,_,_,_,_=>Ub
def ZF.toF:ZF->Nat->AV|.nil,_=>Zdh|.cons v _,0=>v|.cons _ l,n+1=>l.toF n
mutual
def Pat.back:Pat->Bool|.own _ k|.rows _ k=>k|.var _ _|.map _ _|.mrows _ _|.fnd _ _ _ _=>Uc|.agg l|.fn _ l=>l.back|_=>Ud
def Pats.back:Pats->Bool|.nil=>Ud|.cons p l=>p.back||l.back
end
mutual
def ZiT:(p:Pat)->WH p|.pd t|.ro t=>zeroEl t|.own _ _|.map _ _|.rows _ _|.mrows _ _|.it _ _|.owo _=>[]|.var _ p=>ZiT p|.fnd tn tq lt _=>(zeroEl tn,zeroEl tq,zeroEl lt,[],[],[])|.agg l|.fn _ l=>ZiU l|.nilr|.nils|.any=>()
def ZiU:(l:Pats)->KX l|.nil=>()|.cons p l=>(ZiT p,ZiU l)
end
mutual
def outDef:(p:Pat)->Do p|.own _ true=>[]|.own _ false=>()|.var _ p=>ZiT p|.map _ _=>[]|.rows _ true=>[]|.rows _ false=>()|.mrows _ _=>[]|.it _ _|.owo _|.pd _|.ro _|.nilr|.nils|.any=>()|.fnd tn tq lt _=>(zeroEl tn,zeroEl tq,zeroEl lt,[],[],[])|.agg l|.fn _ l=>ZjY l
def ZjY:(l:Pats)->WS l|.nil=>()|.cons p l=>(outDef p,ZjY l)
end
def Zil:Pat->AV->Bool|.pd t,v=>v.fits t|.own t _,v=>v.fits (.sl t)|.rows t _,v=>v.fits (.sl (.sl t))|.owo b,v=>v.fits (.sl (.pn b))|.agg _,_|.fn _ _,_=>Uc|.any,_=>Ud|.nils,v=>v.fits (.sl .unit)|_,v=>v.fits .ref
mutual
def JZ:(p:Pat)->AV->ZE (Do p×ZI)
 |.own t Uc,.vw id=>.getH id fun
  |some (.vec b xs)=>.opt (KC (.sl b) (.sl t) xs) λy=>.ret (y,⟨[id],[]⟩)|_=>.fail
 |.own _ Ud,_=>.ret ((),ZI.none)|.var t p,.ptr id []=>.getH id fun
  |some (.var b c)=>bif b==t&&p.fits t then(ext p c).bind λr=>.ret (r.1,⟨id::r.2.tk,r.2.br⟩) else .fail|_=>.fail
 |.map d i,.mp id=>.getH id fun
  |some (.map k e m)=>.opt (KC (.sl (.prod k e)) (.sl (.prod d i)) m) λy=>.ret (y,⟨[id],[]⟩)|_=>.fail
 |.rows t Uc,.vw id=>.getH id fun
  |some (.rows b xs _ Ub)=>.opt (KC (.sl (.sl b)) (.sl (.sl t)) xs) λy=>.ret (y,⟨[id],[]⟩)|_=>.fail
 |.rows _ Ud,_=>.ret ((),ZI.none)|.mrows d t,.mp id=>.getH id fun
  |some (.mrows k b m _ Ub)=>.opt (KC (.sl (.prod k (.sl b))) (.sl (.prod d (.sl t))) m) λy=>.ret (y,⟨[id],[]⟩)|_=>.fail
 |.it _ _,_|.owo _,_|.pd _,_|.ro _,_|.nilr,_|.nils,_|.any,_=>.ret ((),ZI.none)|.fnd tn tq lt lb,.ptr id []=>ext (.fnd tn tq lt lb) (.ptr id [])|.agg l,.agg vs=>ZbS l vs|.fn f l,.fn h vs=>bif Vd h f then ZbS l vs else .fail|_,_=>.fail
def ZbS:(l:Pats)->ZF->ZE (WS l×ZI)|.nil,.nil=>.ret ((),ZI.none)|.cons p l,.cons v vs=>bif Zil p v then(JZ p v).bind λx=>(ZbS l vs).bind λy=>.ret ((x.1,y.1),x.2.app y.2) else .fail|_,_=>.fail
end
def ZcZ:(l:Pats)->ZF->ZE (WS l×ZI)
 |.nil,_=>.ret ((),ZI.none)|.cons p l,.cons v vs=>bif p.back then(JZ p v).bind λx=>(ZcZ l vs).bind λy=>.ret ((x.1,y.1),x.2.app y.2)
   else(ZcZ l vs).bind λy=>.ret ((outDef p,y.1),y.2)|_,_=>.fail
def Zc4(E:Kh)(s:AS):V ResultVar->ZE ZF
 |[]=>.ret .nil|.tmp t::l=>(Zc4 E s l).bind λvs=>.ret (.cons (s.F t) vs)|.cell a T::l=>.opt (E.ty T) λt=>(match s.F a with
  |.ptr id p=>.getH id fun
   |some (.var _ c)=>(DC c p).bind λv=>bif v.fits t&&v.solid then(Zc4 E s l).bind λvs=>.ret (.cons v vs) else .fail|_=>.fail
  |_=>.fail)
def X4:Pats->Nat->V Nat|.nil,_=>[]|.cons p l,n=>(bif p.back then [n] else [])++X4 l (n+1)
def Pats.len:Pats->Nat|.nil=>0|.cons _ l=>l.len+1
def ZeE(F:Nat->AV):Pats->Nat->ZF|.nil,_=>.nil|.cons _ l,n=>.cons (F n) (ZeE F l (n+1))
def YO(E:Kh)(results:Array ResultVar) args res(fz:V Nat)(e:Ex)(s:AS):Option (WS args×KX res):=
 match e with
 |.exit _|.jump _=>Ub|_=>((Zc4 E s results.toList).bind λvs=>(WP res vs).bind λr=>(ZcZ args (ZeE s.F args 0)).bind λo=>.ret ((o.1,r.1),o.2.app r.2)).runK s.H [] λr _=>
   bif r.2.ok fz&&Xe r.2.br fz then Ua r.1 else Ub
def DF(ks:V Nat)(f:ZF)(e:AH)(s:AS):V (Nat×Nat×Nat)->Bool
 |[]=>Uc|k::l=>(match f.nth k.1,s.F k.1 with
  |some (.ptr id []),.ptr d []=>(match e id,s.H d with
   |some (.var T (.agg c)),Ua (.var h (.agg i))=>(match c.nth k.2.1,i.nth k.2.1 with|some (.vw a),Ua (.vw b)=>Vd a b&&h==T&&Vd (Za1 T k.2.1) k.2.2&&KW k.1 ks|_,_=>Ud)
   |_,_=>Ud)
  |_,_=>Ud)&&DF ks f e s l
def Yu(E:Kh)(body:Code)(results:Array ResultVar)(h:Wf) args res{α}(pack:WS args×KX res->α)(x:KX args)(kp:V (Nat×Nat×Nat):=[]):Option α:=
 let r:=Z5 args x 0
 Kr body h {E with ks:=X4 args 0} α ⟨r.1.toF,WM r.2.1,r.2.2,[]⟩ λe s=>
  (YO E results args res [] e s).bind λy=>bif DF (X4 args 0) r.1 (WM r.2.1) s kp then Ua (pack y) else Ub
def mkE(c:V (Nat×Ty))(ms:V (Nat×Ty×Ty))(pks:V (Nat×Nat))(rws zxs:V Nat)(m:V (Nat×V Spec))(nt:Nat)(b:V (Nat×Nat):=[]):Kh:=
 {ty:=λn=>c.lookup n,mty:=λn=>ms.lookup n,pk:=λn=>(pks.lookup n).getD 0,rw:=λn=>rws.contains n,zx:=λn=>zxs.contains n,bd:=λn=>b.lookup n,specs:=λn=>(m.lookup n).getD [],nt:=nt,ks:=[] }
def Wh(f:Func):Code:=match f.body with|some b=>b|none=>.skip
end
def Rj(agg:Bool)(cs:V Y):Y:=if agg then .agg cs.toArray else cs.headD undef
theorem Rd.oneCell{w I}:∀t x cs,Rd w I t x cs->∀v∈cs,v.oneCell' =Uc
 |.int _,_,_,h|.bool,_,_,h|.str,_,_,h=>by rw[h];simp[Va]|.sl t,x,cs,h=>by
  have⟨a,cap,f,e,_⟩:=h
  rw[e];simp[Va]|.unit,_,_,h=>by rw[h];simp|.prod a b,x,cs,h=>by
  have⟨q,r,e,i,j⟩:=h;rw[e];intro v d;obtain d|d:=Vha.1 d;.exact Rd.oneCell a _ _ i v d
  exact Rd.oneCell b _ _ j v d|.arr n t,x,cs,h=>by
  have⟨e,f,i,j⟩:=h;rw[i];intro v d;have⟨c,k,d⟩:=List.mem_flatten.1 d
  exact j.all_right (λy c m=>Rd.oneCell t y c m) c k v d|.ref,_,_,h=>h.elim|.pt t,x,cs,h=>by obtain⟨a,rfl⟩:=RE.length h;simp[Va]|.lk a b,x,cs,h=>by obtain⟨p,rfl⟩:=Y7.length h;simp[Va]|.pn t,x,cs,h=>by obtain⟨a,rfl⟩:=RD.length h;simp[Va]
mutual
theorem CV.oneCell{w:X}{g:Gh}:∀(a:AV) (cs:V Y),a≠ .junk->CV w g a cs->(∀t,a.fits t=Uc->∀v∈cs,v.oneCell' =Uc)
 |.d t x,cs,_,h,_,_=>Rd.oneCell t x cs (by simpa only[CV] using h)|.junk,_,h,_,_,_=>absurd rfl h|.tup _,_,_,h,_,_=>by simp[CV]at h|.agg l,cs,_,h,t,r=>Kk.oneCell l cs (by simpa only[CV] using h) t (by simpa only[AV.fits] using r)|.dp t x,cs,_,h,_,_=>by simp only[CV]at h;obtain⟨b,off,c,e,_⟩:=h;rw[e];simp[Va]|.ptr id p,cs,_,h,_,_=>by simp only[CV]at h;obtain⟨_,o,t,b,_,_,j⟩:=h;rw[j];simp[Va]|.vw id,cs,_,h,t,r=>by simp only[CV]at h;rw[h.2.1];intro v q;simp at q;rw[q];exact h.2.2|.vs id I n,cs,_,h,_,_=>by
  simp only[CV]at h
  obtain⟨_,_,_,h⟩|⟨b,len,cap,m,_,_,_,_,h⟩:=h.2<;>rw[h]<;>simp[Va]|.vp id i p,cs,_,h,_,_=>by simp only[CV]at h;obtain⟨_,o,t,b,_,_,j⟩:=h;rw[j];simp[Va]|.op id i,cs,_,h,_,_=>by simp only[CV]at h;obtain⟨_,b,off,len,cap,_,j⟩:=h;rw[j];simp[Va]|.mp id,cs,_,h,_,_=>by simp only[CV]at h;obtain⟨_,b,_,j⟩:=h;rw[j];simp[Va]|.fn f l,cs,_,h,_,_=>by simp only[CV]at h;obtain⟨D,e,_⟩:=h;rw[e];simp[Zvv]|.nilr p,cs,_,h,_,_=>by
  have h:=ZcT h;obtain h|h|h:=h<;>rw[h]<;>simp[Va]|.nils,cs,_,h,_,_=>by simp only[CV]at h;rw[h];simp[Va]|.jk n,cs,_,h,_,_=>by simp only[CV]at h;exact h.2|.nw id ver C k,cs,_,h,_,_=>by simp only[CV]at h;obtain⟨_,_,v,e,s,_⟩:=h;rw[e];intro u y;simp at y;rw[y];exact s|.np id ver C k i p,cs,_,h,_,_=>by simp only[CV]at h;obtain⟨_,_,a,e,_⟩:=h;rw[e];simp[Va]
theorem Kk.oneCell{w:X}{g:Gh}:∀(l:ZF) (cs:V Y),Kk w g l cs->(∀t,l.fits t=Uc->∀v∈cs,v.oneCell' =Uc)
 |.nil,cs,h,_,_=>by simp only[Kk]at h;rw[h];simp|.cons a l,cs,h,t,r=>by
  simp only[Kk]at h;obtain⟨z,A,e,s,j⟩:=h;cases t<;>simp only[ZF.fits,Vc,Vz]at r;rw[e];intro v q;obtain q|q:=Vha.1 q;.refine CV.oneCell a z ?_ s _ r.1 v q;rintro rfl;simp[AV.fits]at r
  exact Kk.oneCell l A j _ r.2 v q
end
mutual
theorem CV.length{w:X}{g:Gh}:∀(a:AV) (t:Ty) (cs:V Y),a.fits t=Uc->CV w g a cs->cs.length=t.size
 |.d k x,t,cs,b,h=>by
  simp only[AV.fits,Kp]at b;subst b
  exact Rd.length _ _ _ (by simpa only[CV] using h)|.junk,_,_,b,_|.tup _,_,_,b,_=>by simp[AV.fits]at b|.agg l,t,cs,b,h=>Kk.length l t cs (by simpa only[AV.fits] using b) (by simpa only[CV] using h)|.jk n,t,cs,b,h=>by
  simp only[AV.fits,Kp]at b
  simp only[CV]at h;rw[h.1,b]|.dp _ _,t,cs,b,h=>by
  cases t<;>simp[AV.fits]at b
  all_goals (simp only[CV]at h;obtain⟨_,_,_,c,_⟩:=h;rw[c];rfl)|.ptr _ _,t,cs,b,h=>by
  cases t<;>simp[AV.fits]at b
  all_goals (simp only[CV]at h;obtain⟨_,_,_,_,_,_,c⟩:=h;rw[c];rfl)|.vp _ _ _,t,cs,b,h=>by
  cases t<;>simp[AV.fits]at b
  simp only[CV]at h;obtain⟨_,_,_,_,_,_,c⟩:=h;rw[c];rfl|.op _ _,t,cs,b,h=>by simp[AV.fits]at b|.mp _,t,cs,b,h=>by
  cases t<;>simp[AV.fits]at b
  simp only[CV]at h;obtain⟨_,_,_,c⟩:=h;rw[c];rfl|.fn _ _,t,cs,b,h=>by
  cases t<;>simp[AV.fits]at b
  simp only[CV]at h;obtain⟨_,c,_⟩:=h;rw[c];rfl|.nilr p,t,cs,b,h=>by
  cases t<;>simp[AV.fits]at b
  all_goals (have h:=ZcT h;obtain h|h|h:=h<;>rw[h]<;>rfl)|.vw _,t,cs,b,h=>by
  cases t<;>simp[AV.fits]at b
  simp only[CV]at h;rw[h.2.1];rfl|.vs _ _ _,t,cs,b,h=>by
  cases t<;>simp[AV.fits]at b
  simp only[CV]at h;obtain⟨_,_,_,c⟩|⟨_,_,_,_,_,_,_,_,c⟩:=h.2<;>rw[c]<;>rfl|.nils,t,cs,b,h=>by
  cases t<;>simp[AV.fits]at b
  simp only[CV]at h;rw[h];rfl|.nw _ _ _ _,t,cs,b,h=>by
  cases t<;>simp[AV.fits]at b
  simp only[CV]at h;obtain⟨_,_,v,c,_⟩:=h;rw[c];rfl|.np _ _ _ _ _ _,t,cs,b,h=>by
  cases t<;>simp[AV.fits]at b;simp only[CV]at h;obtain⟨_,_,a,c,_⟩:=h;rw[c];rfl
theorem Kk.length{w:X}{g:Gh}:∀(l:ZF) (t:Ty) (cs:V Y),l.fits t=Uc->Kk w g l cs->cs.length=t.size
 |.nil,t,cs,b,h=>by
  cases t<;>simp[ZF.fits]at b
  simp only[Kk]at h;rw[h];rfl|.cons a l,t,cs,b,h=>by
  cases t<;>simp only[ZF.fits,Vc,Vz]at b;simp only[Kk]at h;obtain⟨e,f,c,i,j⟩:=h;rw[c,Vi,CV.length a _ e b.1 i,Kk.length l _ f b.2 j];rfl
end
theorem KS{t b x y}(h:KC t b x=Ua y):∃e:t=b,y=e▸x:=by unfold KC at h;grind
theorem Zft{t x y}(h:KC t t x=Ua y):y=x:=by have⟨e,h⟩:=KS h;omega
theorem ZaP{css:V (V Y)}{i c}(h:css[i]? =Ua c) n(f:∀c∈css,c.length=n):
 css.flatten=(css.take i).flatten++c++(css.drop (i+1)).flatten/\(css.take i).flatten.length=i*n/\
 ∀d,(css.set i d).flatten=(css.take i).flatten++d++(css.drop (i+1)).flatten:=by
 obtain⟨b,rfl⟩:=Vq.1 h;refine⟨?_,?_,λd=>?_⟩;.rw[<-List.flatten_append_singleton_flatten b]
 .rw[Hm λc e=>f c (List.mem_of_mem_take e),List.length_take,Nat.min_eq_left (Nat.le_of_lt b)]
 rw[List.set_eq_take_append_cons_drop,Zn b];simp
where
 List.flatten_append_singleton_flatten {css:V (V Y)}{i} b:css.flatten=(css.take i).flatten++css[i]++(css.drop (i+1)).flatten:=by
  have j:css=css.take i++css.drop i:=by simp
  have k:css.drop i=css[i]::css.drop (i+1):=Vda b;grind
def At(t:Ty)(p:V Nat)(c:Ty)(cs b:V Y):Prop:= ∃o pre post,ZV t p=Ua (o,c)/\cs=pre++b++post/\pre.length=o
theorem Zgb{w I H}:∀p t x l l' r cs,(DD t x p).run H l=Ua (r,l')->Rd w I t x cs->
 l' =l/\∃j,At t p r.1 cs j/\Rd w I r.1 r.2 j:=by
 intro p t
 induction t generalizing p with
 |prod a b D J=>
  intro x l l' r cs h s;have⟨j,A,C,m,k⟩:=s
  match p with
  |[]=>
   obtain⟨rfl,rfl⟩:=h
   exact⟨rfl,cs,⟨0,[],[],rfl,by simp,rfl⟩,j,A,C,m,k⟩|0::p=>
   have⟨e,d,⟨o,pre,post,u,K,z⟩,q⟩:=D p x.1 l l' r j h m
   exact⟨e,d,⟨o,pre,post++A,by assumption,by grind,z⟩,q⟩|(n+1)::p=>
   have⟨e,d,⟨o,pre,post,u,K,z⟩,q⟩:=J (n::p) x.2 l l' r A h k;refine⟨e,d,⟨o+a.size,j++pre,post,by simp[ZV,u],by grind,?_⟩,q⟩
   rw[Vi,Rd.length a _ _ m,z];omega
 |arr n t Q=>
  intro x l l' r cs h s;have⟨C,f,m,k⟩:=s
  match p with
  |[]=>
   obtain⟨rfl,rfl⟩:=h
   exact⟨rfl,cs,⟨0,[],[],rfl,by simp,rfl⟩,C,f,m,k⟩|i::p=>
   simp[DD,ZE.run]at h
   cases L:x[i]? with
   |none=>grind|some y=>
    rw[L]at h;have⟨c,M,O⟩:=k.get i y L;have⟨e,d,⟨o,pre,post,u,K,z⟩,q⟩:=Q p y l l' r c h O;have⟨R,S,_⟩:=ZaP M t.size (Rd.all_length k);have N:i<n:=by grind
    refine⟨e,d,⟨o+i*t.size,(f.take i).flatten++pre,post++(f.drop (i+1)).flatten,by simp[ZV,N,u],by grind,?_⟩,q⟩
    grind
 |_=>
  intro x l l' r cs h s
  match p with
  |[]=>
   obtain⟨rfl,rfl⟩:=h
   exact⟨rfl,cs,⟨0,[],[],rfl,by simp,rfl⟩,s⟩|_::_=>simp[DD,ZE.run]at h
theorem Zg2{w I H}:∀p t x l l' y z cs d,(XC t x p y).run H l=Ua (z,l')->Rd w I t x cs->Rd w I y.1 y.2 d->
 l' =l/\∃o pre A post,ZV t p=Ua (o,y.1)/\cs=pre++A++post/\pre.length=o/\A.length=d.length/\Rd w I t z (pre++d++post):=by
 intro p t
 induction t generalizing p with
 |prod a b Q R=>
  intro x l l' y z cs d h K r;have⟨A,N,O,C,m⟩:=K
  match p with
  |[]=>
   simp[XC,ZE.run]at h
   cases f:KC y.1 (.prod a b) y.2 with
   |none=>grind|some z' =>
    rw[f]at h;simp[Za,Z4,Vb]at h;obtain⟨rfl,rfl⟩:=h;have⟨t1,y1⟩:=y;have⟨e,j⟩:=KS f;simp at e;subst e;have j:=j;subst j;refine⟨rfl,0,[],cs,[],rfl,by simp,rfl,?_,by grind⟩
    rw[Rd.length _ _ _ r,O,Vi,Rd.length a _ _ C,Rd.length b _ _ m];rfl
  |0::p=>
   simp[XC,ZE.run_bind]at h
   cases s:(XC a x.1 p y).run H l with
   |none=>grind|some q=>
    rw[s]at h;simp[Za,ZE.run,Z4,Vb]at h;obtain⟨rfl,rfl⟩:=h;have⟨e,o,pre,k,post,L,U,M,D,J⟩:=Q p x.1 l q.2 y q.1 A d s C r
    exact⟨e,o,pre,k,post++N,by assumption,by grind,M,D,pre++d++post,N,by simp,J,m⟩
  |(n+1)::p=>
   simp[XC,ZE.run_bind]at h
   cases s:(XC b x.2 (n::p) y).run H l with
   |none=>grind|some q=>
    rw[s]at h;obtain⟨rfl,rfl⟩:=h;have⟨e,o,pre,k,post,L,U,M,D,J⟩:=R (n::p) x.2 l q.2 y q.1 N d s m r;refine⟨e,o+a.size,A++pre,k,post,by simp[ZV,L],by grind,?_,D,A,pre++d++post,by simp,C,J⟩
    rw[Vi,Rd.length a _ _ C,M];omega
 |arr n t ih=>
  intro x l l' y z cs d h K r;have⟨O,u,C,m⟩:=K
  match p with
  |[]=>
   simp[XC,ZE.run]at h
   cases f:KC y.1 (.arr n t) y.2 with
   |none=>grind|some z' =>
    rw[f]at h;simp only[Za,Z4,Vb]at h;obtain⟨rfl,rfl⟩:=h;have⟨t1,y1⟩:=y;have⟨e,j⟩:=KS f;simp only at e;subst e;have j:=j;subst j;refine⟨rfl,0,[],cs,[],rfl,by simp,rfl,?_,by grind⟩
    rw[Rd.length _ _ _ r,C,Hm (Rd.all_length m),<-m.length,O];rfl
  |i::p=>
   simp only[XC,ZE.run]at h
   cases W:(x:V (El t))[i]? with
   |none=>grind|some S=>
    rw[W]at h;simp only[Za,ZE.run_bind]at h
    cases s:(XC t S p y).run H l with
    |none=>grind|some q=>
     rw[s]at h;simp only[Za,ZE.run,Z4,Vb]at h;obtain⟨rfl,rfl⟩:=h;have⟨c,f,hy⟩:=m.get i S W;have⟨e,o,pre,k,post,L,U,M,D,J⟩:=ih p S l q.2 y q.1 c d s hy r;have⟨s1,s2,s3⟩:=ZaP f t.size (Rd.all_length m);have hi:i<n:=by grind
     refine⟨e,o+i*t.size,(u.take i).flatten++pre,k,post++(u.drop (i+1)).flatten,by simp[ZV,hi,L],by grind,?_,D,?_,u.set i (pre++d++post),?_,m.set i J⟩
     all_goals grind
 |_=>
  intro x l l' y z cs d h K r
  match p with
  |[]=>
   simp only[XC,ZE.run]at h
   cases f:KC y.1 _ y.2 with
   |none=>rw[f]at h;grind|some z' =>
    rw[f]at h;simp only[Za]at h;obtain⟨rfl,rfl⟩:=Ve (Kx h);have⟨t1,y1⟩:=y;have⟨e,j⟩:=KS f;simp only at e;subst e;have j:=j;subst j;refine⟨rfl,0,[],cs,[],rfl,by simp,rfl,?_,by grind⟩
    rw[Rd.length _ _ _ r,Rd.length _ _ _ K]
  |_::_=>simp[XC,ZE.run]at h
theorem ZvH{w g H}:∀(l:ZF) t n p k b v cs,
 (∀(a:AV) t p k b v cs,sizeOf a<sizeOf l->(DC a p).run H k=Ua (v,b)->a.fits t=Uc->CV w g a cs->b=k/\∃c f,At t p c cs f/\v.fits c=Uc/\CV w g v f)->
 (Zga l n p).run H k=Ua (v,b)->l.fits t=Uc->Kk w g l cs->b=k/\∃c f,At t (n::p) c cs f/\v.fits c=Uc/\CV w g v f:=by
 intro l
 induction l using ZF.rec (motive_1:=λ_=>True) with
 |nil=>intro t n p k b v cs _ h;simp[Zga,ZE.run]at h|cons a l _ D=>
  intro t n p k b v cs i h j C;cases t<;>simp[ZF.fits,Vc]at j;rename_i y I;have⟨f,s,J,u,z⟩:=C
  cases n with
  |zero=>
   have⟨e,c,d,⟨o,pre,post,x,A,m⟩,q,r⟩:=i a y p k b v f (by grind) h j.1 u
   exact⟨e,c,d,⟨o,pre,post++s,by assumption,by grind,m⟩,q,r⟩|succ n=>
   have⟨e,c,d,⟨o,pre,post,x,A,m⟩,q,r⟩:=D I n p k b v s (by grind) h j.2 z;refine⟨e,c,d,⟨o+y.size,f++pre,post,by simp[ZV,x],by grind,?_⟩,q,r⟩
   rw[Vi,CV.length a _ _ j.1 u,m];omega
 |_=>trivial
theorem ZvG{w g H} N:∀(a:AV) (_:sizeOf a<N) t p k c v cs,(DC a p).run H k=Ua (v,c)->a.fits t=Uc->CV w g a cs->
 c=k/\∃j b,At t p j cs b/\v.fits j=Uc/\CV w g v b:=by
 induction N with
 |zero=>omega|succ N u=>
 intro a z t p k c v cs h f s
 match p with
 |[]=>
  have:DC a []=.ret a:=by cases a<;>rfl
  rw[this]at h;obtain⟨rfl,rfl⟩:=Ve (Kx h)
  exact⟨rfl,t,cs,⟨0,[],[],by cases t<;>rfl,by simp,rfl⟩,f,s⟩|n::p=>
  cases a with
  |d m x=>
   simp[AV.fits]at f;subst f;simp[DC,ZE.run_bind]at h
   cases i:(DD m x (n::p)).run H k with
   |none=>grind|some q=>
    rw[i]at h;obtain⟨rfl,rfl⟩:=Ve (Kx h);obtain⟨e,b,r,y⟩:=Zgb (n::p) m x k q.2 q.1 cs i (by assumption)
    exact⟨e,q.1.1,b,r,by simp[AV.fits],by assumption⟩
  |agg l=>
   exact ZvH l t n p k c v cs (by grind) h (by assumption) (by assumption)|_=>simp[DC,ZE.run]at h
theorem Zf9{w g H a t p k b v cs}(h:(DC a p).run H k=Ua (v,b))(f:a.fits t=Uc)(e:CV w g a cs):
 b=k/\∃d c,At t p d cs c/\v.fits d=Uc/\CV w g v c:=ZvG (sizeOf a+1) a (by omega) t p k b v cs h f e
theorem ZmW{w g}:∀t x cs,(HM t x).fits t=Uc->Rd w g.I t x cs->Kk w g (HM t x) cs:=by
 intro t
 induction t with
 |prod a b _ i=>
  intro x cs c h;have⟨d,e,f,j,k⟩:=h;simp[HM,ZF.fits]at c
  exact⟨d,e,f,by assumption,by grind⟩|unit=>intro x cs _ h;assumption|_=>intro x cs c;simp[ZF.fits]at c
structure Put (t:Ty) (p:V Nat) (cs d:V Y) (o:Nat) (pre c1 post:V Y) (t1:Ty):Prop where
 off:ZV t p=Ua (o,t1)
 cs:cs=pre++c1++post
 len:pre.length=o
 eq:c1.length=d.length
theorem Zp7{w g H}:∀l t n p k z v m cs d,
 (HY t l n p v).run H k=Ua (m,z)->l.fits t=Uc->Kk w g l cs->CV w g v d->z=k/\∃o pre c post f,Put t (n::p) cs d o pre c post f/\m.fits t=Uc/\Kk w g m (pre++d++post):=by
 intro l
 induction l using ZF.rec (motive_1:=λ_=>True) with
 |nil=>intro t n p k z v m cs d h;cases t<;>simp[HY,ZE.run]at h|cons a l _ W=>
  intro t n p k z v m cs d h b S J;cases t<;>simp[ZF.fits,Vz]at b;rename_i i O;have⟨c,j,h1,A,C⟩:=S
  cases n with
  |zero=>
   match p with
   |[]=>
    simp[HY]at h
    cases u:v.fits i with
    |false=>rw[u]at h;simp[ZE.run]at h|true=>
     rw[u]at h;obtain⟨rfl,rfl⟩:=Ve (Kx (by assumption));refine⟨rfl,0,[],c,j,i,⟨by cases i<;>rfl,by grind,rfl,?_⟩,by simp[ZF.fits,u,b.2],d,j,by simp,J,C⟩
     rw[CV.length a i c b.1 A,CV.length v i d u J]
   |q::p=>
    cases a with
    |d L x=>
     have U:L=i:=by simpa[AV.fits] using b.1
     subst U
     cases v with
     |d f y=>
      simp[HY,ZE.run_bind]at h
      cases s:(XC L x (q::p) ⟨f,y⟩).run H k with
      |none=>grind|some r=>
       rw[s]at h;obtain⟨rfl,rfl⟩:=Ve (Kx (by assumption));obtain⟨e,o,pre,K,post,M,Q,D,I,N⟩:=Zg2 (q::p) L x k r.2 ⟨f,y⟩ r.1 c d s (by assumption) (by assumption)
       exact⟨e,o,pre,K,post++j,f,⟨by assumption,by grind,D,I⟩,by simp[ZF.fits,AV.fits,b.2],pre++d++post,j,by simp,by assumption,C⟩
     |_=>simp[HY,ZE.run]at h
    |_=>simp[HY,ZE.run]at h
  |succ n=>
   simp[HY,ZE.run_bind]at h
   cases s:(HY O l n p v).run H k with
   |none=>grind|some r=>
    rw[s]at h;obtain⟨rfl,rfl⟩:=Ve (Kx (by assumption));have⟨e,o,pre,K,post,f,⟨M,Q,D,I⟩,N,R⟩:=W O n p k r.2 v r.1 j d s b.2 C J;refine⟨e,o+i.size,c++pre,K,post,f,⟨by simp[ZV,M],by grind,?_,I⟩,by simp[ZF.fits,b.1,N],c,pre++d++post,by simp,A,R⟩
    rw[Vi,CV.length a _ _ b.1 A,D];omega
 |_=>trivial
theorem WW t:ZV t []=Ua (0,t):=by cases t<;>rfl
theorem Zp6{w g H t c p k C v j cs d}(h:(Zae t c p v).run H k=Ua (j,C))(R:c.fits t=Uc)(U:CV w g c cs)(J:CV w g v d)
 (s:cs.length=t.size):C=k/\∃o pre D post f,Put t p cs d o pre D post f/\j.fits t=Uc/\CV w g j (pre++d++post):=by
 match p with
 |[]=>
  simp[Zae]at h
  cases A:v.fits t with
  |false=>rw[A]at h;simp[ZE.run]at h|true=>
   rw[A]at h;obtain⟨rfl,rfl⟩:=Ve (Kx (by assumption));refine⟨rfl,0,[],cs,[],t,⟨WW t,by simp,rfl,?_⟩,A,by grind⟩
   rw[s,CV.length v t d A J]
 |n::q=>
  cases c with
  |agg l=>
   simp[Zae,ZE.run_bind]at h
   cases i:(HY t l n q v).run H k with
   |none=>grind|some r=>
    rw[i]at h;obtain⟨rfl,rfl⟩:=Ve (Kx (by assumption));have⟨e,o,pre,u,post,f,m,K,Q⟩:=Zp7 l t n q k r.2 v r.1 cs d i (by assumption) (by assumption) J
    exact⟨e,o,pre,u,post,f,m,by assumption,by assumption⟩
  |d b x=>
   have S:b=t:=by simpa[AV.fits] using R
   subst S;have L:Rd w g.I b x cs:=by assumption
   have other:(bif (HM b x).fits b then(HY b (HM b x) n q v).bind λl=>.ret (.agg l) else ZE.fail).run H k=Ua (j,C)->
    C=k/\∃o pre D post f,Put b (n::q) cs d o pre D post f/\j.fits b=Uc/\CV w g j (pre++d++post):=by
    intro h
    cases z:(HM b x).fits b with
    |false=>rw[z]at h;simp[ZE.run]at h|true=>
     rw[z]at h;simp[ZE.run_bind]at h
     cases i:(HY b (HM b x) n q v).run H k with
     |none=>grind|some r=>
      rw[i]at h;obtain⟨rfl,rfl⟩:=Ve (Kx (by assumption));have⟨e,o,pre,u,post,f,m,K,Q⟩:=Zp7 _ b n q k r.2 v r.1 cs d i z (ZmW b x cs z L) J;exact⟨e,o,pre,u,post,f,m,by assumption,by assumption⟩
   cases v with
   |d f y=>
    simp[Zae,ZE.run_bind]at h
    cases i:(XC b x (n::q) ⟨f,y⟩).run H k with
    |none=>grind|some r=>
     rw[i]at h;obtain⟨rfl,rfl⟩:=Ve (Kx (by assumption));have⟨e,o,pre,u,post,m,M,N,O,K⟩:=Zg2 (n::q) b x k r.2 ⟨f,y⟩ r.1 cs d i L (by assumption)
     exact⟨e,o,pre,u,post,f,⟨m,M,N,O⟩,by assumption,by assumption⟩
   |_=>exact other h
  |_=>simp[Zae,ZE.run]at h
def Zhy(f:V Y->Bool)(size:Nat):Nat->V Y->Bool|0,cs=>cs.isEmpty|n+1,cs=>f (cs.take size)&&Zhy f size n (cs.drop size)
def Hz:Ty->V Y->Bool|.int k,[.int c n]=>k==c&&n==0|.bool,[.bool b]=> !b|.str,[.string s]=>s.data.toList.isEmpty|.sl _,[.slice Ub 0 0]|.pt _,[.pointer Ub]|.lk _ _,[.pointer Ub]|.pn _,[.pointer Ub]|.unit,[]=>Uc|.prod a b,cs=>Hz a (cs.take a.size)&&Hz b (cs.drop a.size)|.arr n t,cs=>Zhy (Hz t) t.size n cs|_,_=>Ud
def Zjr:V Y->Bool|[.pointer Ub]|[.nilFunc]|[.map Ub]=>Uc|_=>Ud
def Zjs:V Y->Bool|[.slice Ub 0 0]=>Uc|_=>Ud
def Zan:Ty->V Y->Bool
 |.prod a b,cs=>(bif a.data then Hz a (cs.take a.size) else(match a with|.ref=>Zjr (cs.take 1)|.sl _=>Zjs (cs.take 1)|a=>(cs.take a.size).length==a.size&&(cs.take a.size).all Va))&&Zan b (cs.drop a.size)
 |.unit,cs=>cs.isEmpty|_,_=>Ud
def D1(t:Ty)(cs:V Y):Bool:=
 bif t.data then Hz t cs else match t with|.ref=>Zjr cs|.sl _=>Zjs cs|.prod a b=>Zan (.prod a b) cs|t=>cs.length==t.size&&cs.all Va
theorem ZeR{w I}:∀t cs,Hz t cs=Uc->Rd w I t (zeroEl t) cs:=by
 intro t
 induction t with
 |int k=>
  intro cs h
  match cs,h with
  |[.int p n],h=>
   simp[Hz,Kp]at h
   obtain⟨rfl,rfl⟩:=h;rfl
 |bool=>
  intro cs h
  match cs,h with|[.bool b],h=>simp[Hz]at h;subst h;rfl
 |str=>
  intro cs h
  match cs,h with
  |[.string s],h=>
   have⟨⟨l⟩⟩:=s;simp[Hz]at h
   subst h;rfl
 |sl t _=>
  intro cs h
  match cs,h with|[.slice Ub 0 0],_=>exact⟨Ub,0,[],rfl,trivial,λh=>absurd rfl h,Vj _⟩
 |unit=>
  intro cs h
  match cs,h with|[],_=>rfl
 |prod a b d e=>
  intro cs h;simp[Hz]at h
  exact⟨_,_,by simp,d _ h.1,e _ h.2⟩|arr n t m=>
  intro cs h;simp[Hz]at h;refine⟨by simp[zeroEl],?_⟩
  induction n generalizing cs with
  |zero=>
   simp[Zhy]at h;subst h
   exact⟨[],rfl,by simp[zeroEl,Fa]⟩|succ n f=>
   simp[Zhy,Vc]at h;have⟨c,i,j⟩:=f _ h.2;refine⟨cs.take t.size::c,?_,?_⟩;.rw[List.flatten_cons,<-i,Vv]
   exact⟨m _ h.1,j⟩
 |ref=>
  intro cs h
  simp[Hz]at h|pt t _=>
  intro cs h
  match cs,h with|[.pointer Ub],_=>rfl
 |lk a b _ _=>
  intro cs h
  match cs,h with|[.pointer Ub],_=>rfl
 |pn t _=>
  intro cs h
  match cs,h with|[.pointer Ub],_=>rfl
theorem ZnD{w g cs}(h:Zjr cs=Uc):CV w g (.nilr Ud) cs:=by
 simp[CV]
 match cs,h with|[.pointer Ub],_|[.nilFunc],_|[.map Ub],_=>simp
theorem Zgh{w g cs}(h:Zjs cs=Uc):CV w g .nils cs:=by
 match cs,h with|[.slice Ub 0 0],_=>rfl
theorem Zq9{w g t cs}(h:Hz (.sl t) cs=Uc):CV w g .nils cs:=by
 match cs,h with|[.slice Ub 0 0],_=>rfl
theorem Zhz{w g}:∀t cs,Zan t cs=Uc->Kk w g (Ru Ud t) cs/\(Ru Ud t).fits t=true:=by
 intro t
 induction t with
 |prod a b _ f=>
  intro cs h;simp only[Zan,Vc]at h;have⟨j,k⟩:=f _ h.2;simp[Ru,ZF.fits];have c:=h.1;have key:CV w g (H5 Ud a) (cs.take a.size)/\(H5 Ud a).fits a=true:=by
   cases e:a.isSl with
   |true=>
    obtain⟨t,rfl⟩:∃t,a=.sl t:=by cases a<;>simp[Ty.isSl]at e;simp
    have i:H5 Ud (.sl t)=.nils:=by simp[H5,Ty.isSl,ZhB]
    rw[i];refine⟨?_,rfl⟩
    cases d:(Ty.sl t).data with|true=>rw[d]at c;exact Zq9 c|false=>rw[d]at c;exact Zgh c
   |false=>
   unfold H5
   cases d:a.data with
   |true=>
    rw[d]at c;simp[e,Zf]at c⊢
    exact⟨by simpa only[CV] using ZeR a _ c,by simp[AV.fits]⟩|false=>
    rw[d]at c;simp only[Ze]at c⊢
    cases a with
    |ref=>exact⟨ZnD c,rfl⟩|sl t=>exact⟨Zgh c,rfl⟩|_=>
     simp only[Vc,Kp,List.all_eq_true]at c;exact⟨by assumption,by simp[ZhB,AV.fits]⟩
  exact⟨⟨_,_,by simp,key.1,j⟩,key.2,k⟩
 |unit=>
  intro cs h;simp[Zan]at h;subst h
  exact⟨rfl,rfl⟩|_=>intro cs h;simp[Zan]at h
theorem ZhA{w g t cs}(h:D1 t cs=Uc):CV w g (Yg t) cs/\(Yg t).fits t=true:=by
 unfold D1 at h
 cases d:t.isSl with
 |true=>
  cases t<;>simp[Ty.isSl]at d;rename_i t;have e:Yg (.sl t)=.nils:=by simp[Yg,Ty.isSl]
  rw[e];refine⟨?_,rfl⟩
  cases c:(Ty.sl t).data with|true=>rw[c]at h;exact Zq9 h|false=>rw[c]at h;exact Zgh h
 |false=>
 unfold Yg
 cases c:t.data with
 |true=>
  rw[c]at h;simp[d,Zf]at h⊢
  exact⟨by simpa only[CV] using ZeR t _ h,by simp[AV.fits]⟩|false=>
  rw[c]at h;simp[Ze]at h⊢
  cases t with
  |ref=>exact⟨ZnD h,rfl⟩|sl t=>exact⟨Zgh h,rfl⟩|prod a b=>
   obtain⟨f,i⟩:=Zhz _ _ h
   exact⟨by assumption,by assumption⟩|_=>
   simp[Kp]at h;exact⟨by assumption,by simp[AV.fits]⟩
theorem ZAf t(h:t.data=Uc\/(match t with|.arr _ _=>False|_=>True)):(Yg t).isAgg=t.agg:=by
 unfold Yg
 cases b:t.isSl with
 |true=>cases t<;>simp[Ty.isSl]at b;simp[AV.isAgg,Ty.agg]|false=>
 cases c:t.data with
 |true=>rfl|false=>
  cases t<;>simp_all[AV.isAgg,Ty.agg,Ty.data]
theorem ZAg{w g t z}(i:t.data=Uc)(h:Kw w g (Yg t) z):Kw w g (.d t (zeroEl t)) z:=by
 cases b:t.isSl with
 |false=>
  have c:Yg t=.d t (zeroEl t):=by simp[Yg,i,b]
  grind|true=>
  cases t<;>simp[Ty.isSl]at b;rename_i t;have c:Yg (.sl t)=.nils:=by simp[Yg,Ty.isSl]
  rw[c]at h;have⟨e,f⟩:=h;refine⟨?_,.inr ?_⟩;.rw[e];exact⟨Ub,0,[],rfl,trivial,λh=>absurd rfl h,Vj _⟩
  exact f.resolve_left (by simp)
def Ty.chain:Ty->Bool|.prod _ b=>b.chain|.unit=>Uc|_=>Ud
def Ka(θ:Z->Option Ty)(t:Ty)(d:Option TypeDesc):Bool:=
 match t,d with
 |.int k,Ua (.int h)=>k==h|.bool,Ua .bool|.str,Ua .string=>Uc|.sl e,Ua (.slice E)=>θ E==Ua e|.arr n e,Ua (.array m E)=>n==m&&θ E==Ua e|.unit,Ua (.struct c)=>c.isEmpty|.prod a b,Ua (.struct c)=>(Vp c.size).all (λf=>match c[f]? with
   |some fd=>match ZV (.prod a b) [f] with
    |some (o,i)=>fd.offset==o&&θ fd.type==some i&&fd.name != "_"
    |none=>Ud
   |none=>Uc)&&(ZV (.prod a b) [c.size]).isNone&&b.chain
 |.pt e,Ua (.pointer E)|.pn e,Ua (.pointer E)=>θ E==Ua e|.lk a b,Ua (.pointer E)=>θ E==Ua (ZcU a b)|.ref,Ua (.pointer _)|.ref,Ua (.func _ _ _)|.ref,Ua (.map _ _)|.ref,Ua (.interface _)=>Uc|_,_=>Ud
def Zqb(P:Program)(T:Z):Bool:=match P.underlying T with
 |some (.slice b)=>(match P.info? b with|some i=>Vba i.bytes 256|none=>Ud)
 |_=>Uc
def ZkG(P:Program)(θ:Z->Option Ty)(T:Z)(t:Ty):Bool:=
 match P.info? T with
 |some i=>Zqb P T&&i.size==t.size&&Vba i.bytes 4096&&(match i.zero with
   |some z=>D1 t z.cells.toList&&Kb z==t.agg&&(t.data|| (match t with|.arr _ _=>Ud|_=>Uc))
   |none=>Ud)&&Ka θ t (P.underlying T)&& !P.stoodInHeld T&& !P.eqGuardType P.depth T
 |none=>Ud
structure Jq (P:Program) (θ:Z->Option Ty) (T:Z) (t:Ty):Prop where
 info:∃i z,P.info? T=Ua i/\i.size=t.size/\i.bytes<=4096/\i.zero=Ua z/\D1 t z.cells.toList=Uc/\Kb z=t.agg
 small:∀Et i,P.underlying T=Ua (.slice Et)->P.info? Et=Ua i->i.bytes<=256
 zagg:(Yg t).isAgg=t.agg
 shape:Ka θ t (P.underlying T)=Uc
 stood:P.stoodInHeld T=Ud
 guard:P.eqGuardType P.depth T=Ud
theorem ZzB{P}{θ}{T t}(h:ZkG P θ T t=Uc):Jq P θ T t:=by
 unfold ZkG at h;split at h
 .rename_i i k;simp only[Vc,Kp]at h;have⟨⟨⟨⟨⟨⟨d,e⟩,f⟩,b⟩,j⟩,r⟩,s⟩:=h;have m:∀c i,P.underlying T=Ua (.slice c)->P.info? c=Ua i->i.bytes<=256:=λc i p q=>by unfold Zqb at d;simp_all
  split at b;.rename_i z n;simp[Vc]at b;refine⟨⟨i,z,k,e,Via f,n,b.1.1,b.1.2⟩,m,ZAf t ?_,j,by grind,by grind⟩;grind
  grind
 grind
section
variable {P:Program}{θ:Z->Option Ty}{T:Z}{t:Ty}
theorem Jq.und(h:Jq P θ T t):∃d,P.underlying T=Ua d:=by
 have:=h.shape
 cases b:P.underlying T with|some d=>simp|none=>rw[b]at this;cases t<;>simp[Ka]at this
theorem Jq.run_isAgg(h:Jq P θ T t) w:(isAgg T).run P w=.ok t.agg w:=by
 have⟨d,b⟩:=h.und;have c:=h.shape;simp[isAgg,underlying];cases t<;>cases d<;>simp_all[Ka,Ty.agg]
theorem Jq.run_sizeOf(h:Jq P θ T t) w:(Go.sizeOf T).run P w=.ok t.size w:=by have⟨i,z,b,c,_⟩:=h.info;simp[Go.sizeOf,typeInfo,b,c]
theorem Jq.run_zero(h:Jq P θ T t) w:∃z,(zeroValue T).run P w=.ok z w/\∀w g,Kw w g (Yg t) z/\(Yg t).fits t=true:=by
 have⟨i,z,c,f,j,d,b,e⟩:=h.info;refine⟨z,?_,λw g=>⟨⟨(ZhA b).1,.inr ?_⟩,(ZhA (w:=w) (g:=g) b).2⟩⟩;.simp[zeroValue,typeInfo,c,d]
 rw[h.zagg,e]
theorem ZAi:∀t cs,t.chain=Uc->t.data=Uc->Hz t cs=Uc->Zan t cs=true:=by
 intro t
 induction t with
 |prod a b _ d=>
  intro cs e c h;simp[Ty.data]at c;simp[Hz]at h;simp[Zan,c.1]
  exact⟨h.1,d _ (by assumption) c.2 h.2⟩|unit=>
  intro cs _ _ h
  cases cs with|nil=>rfl|cons v l=>assumption
 |_=>intro cs e;simp[Ty.chain]at e
theorem Zra{a b cs}(d:b.chain=Uc)(h:D1 (.prod a b) cs=Uc):Zan (.prod a b) cs=true:=by
 unfold D1 at h
 cases c:(Ty.prod a b).data with|true=>rw[c]at h;exact ZAi _ _ (by assumption) c h|false=>grind
theorem Jq.chain{a b}(h:Jq P θ T (.prod a b)):b.chain=true:=by have c:=h.shape;unfold Ka at c;grind
theorem Jq.run_zerox(h:Jq P θ T t) x w:∃z,(zeroValue T).run P w=.ok z w/\∀w g,Kw w g (ZeQ x t) z/\(ZeQ x t).fits t=true:=by
 have c:ZeQ x t=Yg t\/∃a b,t=.prod a b/\ZeQ x t=.agg (Ru Ud (.prod a b)):=by
  cases x with
  |false=>exact .inl rfl|true=>cases t with|prod a b=>exact .inr ⟨a,b,rfl,rfl⟩|_=>exact .inl rfl
 obtain c|⟨a,b,rfl,c⟩:=c;.rw[c];exact h.run_zero w
 rw[c];have⟨i,z,d,j,k,e,f,m⟩:=h.info;refine⟨z,?_,λw g=>?_⟩;.simp[zeroValue,typeInfo,d,e]
 obtain⟨n,p⟩:=Zhz _ _ (Zra h.chain f);exact⟨⟨by assumption,.inr (by assumption)⟩,by assumption⟩
def HA(w:X)(b o:Nat)(cs:V Y):Prop:= ∀j v,cs[j]? =Ua v->w.cell? ⟨b,o+j,Ub⟩=Ua v
theorem HA.add{w b o cs}(h:HA w b o cs):∀j v,cs[j]? =Ua v->w.cell? ((⟨b,o,Ub⟩:Addr).add j)=Ua v:=by
 intro j v c;unfold Addr.add;split;.rename_i d;subst d;exact h 0 v c
 exact h j v c
theorem KH.at{w b o cs}(h:KH w b o cs):HA w b o cs:=by intro j v d;obtain⟨c,rfl⟩:=Vq.1 d;exact h j c
theorem HA.of_heap{w b cs e fr}(h:w.heap[b]? =Ua (.cells cs e fr)){pre c post}(d:cs.toList=pre++c++post):HA w b pre.length c:=by intro j v f;simp[Vu,h];rw[<-Array.getElem?_toList,d,Vma,Vo (by omega)];grind
theorem Zkl(h:Jq P θ T t){w b o cs}(c:HA w b o cs)(f:cs.length=t.size)(d:t.agg=Ud->∃v,cs=[v]):
 (loadVar T ⟨b,o,Ub⟩).run P w=.ok (Rj t.agg cs) w:=by
 simp[loadVar,h.run_isAgg]
 cases e:t.agg with
 |true=>
  simp[h.run_sizeOf,<-f,run_loadCells_list w _ cs c.add,Rj]|false=>
  obtain⟨v,rfl⟩:=d e;simp[Rj];have:=c 0 v rfl;grind
theorem Zdt{w g a cs}(h:CV w g a cs)(c:a.fits t=Uc)(f:a.isAgg=t.agg):Kw w g a (Rj t.agg cs)/\(t.agg=Ud->∃v,cs=[v]):=by
 have d:a≠ .junk:=by rintro rfl;simp[AV.fits]at c
 have e:=CV.oneCell a cs d h t c;have b:=CV.length a t cs c h
 cases i:t.agg with
 |true=>exact⟨⟨by assumption,.inr (by rw[f,i];rfl)⟩,by simp⟩|false=>
  have j:t.size=1:=by cases t<;>simp_all[Ty.agg,Ty.size]
  rw[j]at b
  match cs,b with
  |[v],_=>
   refine⟨⟨?_,.inr ?_⟩,by simp⟩
   .have:v.cells= #[v]:=by cases v<;>simp_all[Vh,Va]
    simpa[Rj,this] using h
   cases v<;>simp_all[Rj,Kb,Va]
end
theorem Zvf{a:AV}{t}(h:a.fits t=Uc):a.isAgg=t.agg\/∃n,a=.jk n:=by
 cases a with|d b x=>simp[AV.fits]at h;subst h;exact .inl rfl|agg l=>cases l<;>cases t<;>simp_all[AV.fits,ZF.fits,AV.isAgg,Ty.agg]|jk n=>simp|_=>cases t<;>simp_all[AV.fits,AV.isAgg,Ty.agg]
section
variable {α β:Type}{H:AH}{l l' :V Nat}
theorem Zr{a x:α}:(ZE.ret a).run H l=Ua (x,l')↔a=x/\l=l' :=by simp[ZE.run]
theorem Zb{x}:(ZE.fail:ZE α).run H l=Ua x↔False:=by simp[ZE.run]
theorem ZD{o}{k:β->ZE α}{x}:(ZE.opt o k).run H l=Ua x↔∃b,o=Ua b/\(k b).run H l=Ua x:=by
 cases o<;>simp[ZE.run]
theorem ZZ{id k}{x:α×V Nat}:(ZE.getH id k).run H l=Ua x↔(k (H id)).run H (id::l)=Ua x:=Iff.rfl
theorem ZY{a:ZE β}{f}{x:α×V Nat}:(a.bind f).run H l=Ua x↔∃y m,a.run H l=Ua (y,m)/\(f y).run H m=Ua x:=by
 rw[ZE.run_bind]
 cases a.run H l with
 |none=>simp|some r=>
  have⟨y,m⟩:=r;simp[Vb];exact⟨λh=>⟨y,m,⟨rfl,rfl⟩,h⟩,λ⟨e,d,⟨b,c⟩,h⟩=>by subst b;subst c;exact h⟩
theorem ZN{b}{x y:ZE α}{z}:(bif b then x else y).run H l=Ua z↔(b=Uc/\x.run H l=Ua z)\/(b=Ud/\y.run H l=Ua z):=by
 cases b<;>simp
end
theorem K3{v c}(h:v.cells.toList=[c])(b:Kb v=Ud):v=c:=by
 cases v<;>simp_all[Vh,Kb]
section
variable {w:X}{g:Gh}
theorem VR.int{k}{n:Int}{v}(h:VR w g (.d (.int k) n) v):v=.int k n:=by have⟨b,c⟩:=h;exact K3 b (by simpa[AV.isAgg,Ty.agg] using c)
theorem VR.bool{b:Bool}{v}(h:VR w g (.d .bool b) v):v=.bool b:=by have⟨c,e⟩:=h;exact K3 c (by simpa[AV.isAgg,Ty.agg] using e)
theorem VR.str{s:V UInt8}{v}(h:VR w g (.d .str s) v):v=.string ⟨s.toArray⟩:=by have⟨b,c⟩:=h;exact K3 b (by simpa[AV.isAgg,Ty.agg] using c)
theorem VR.sl{t}{xs:V (El t)}{v}(h:VR w g (.d (.sl t) xs) v):∃a cap css,v=.slice a xs.length cap/\Fa (Rd w g.I t) xs css/\
 (xs≠ []->∃b off,a=Ua ⟨b,off,Ub⟩/\g.I b/\KH w b off css.flatten)/\xs.length<=cap:=by
 have⟨c,e⟩:=h;have⟨a,cap,css,f,i,j⟩:=c;exact⟨a,cap,css,K3 f (by simpa[AV.isAgg,Ty.agg] using e),i,j⟩
theorem VR.ptr{id p v}(h:VR w g (.ptr id p) v):g.K id/\∃o t b,ZV (g.ty id) p=Ua (o,t)/\g.blk id=Ua b/\v=.pointer (Ua ⟨b,o,Ub⟩):=by have⟨c,d⟩:=h;have⟨j,o,t,b,e,f,i⟩:=c;exact⟨j,o,t,b,e,f,K3 i (by simpa[AV.isAgg] using d)⟩
theorem VR.vp{id i p v}(h:VR w g (.vp id i p) v):g.K id/\∃o t b,ZV (g.ty id) p=Ua (o,t)/\g.blk id=Ua b/\v=.pointer (Ua ⟨b,i* (g.ty id).size+o,Ub⟩):=by have⟨c,d⟩:=h;have⟨k,o,t,b,e,f,j⟩:=c;exact⟨k,o,t,b,e,f,K3 j (by simpa[AV.isAgg] using d)⟩
theorem VR.dp{t x v}(h:VR w g (.dp t x) v):∃b off c,v=.pointer (Ua ⟨b,off,Ub⟩)/\g.I b/\KH w b off c/\Rd w g.I t x c:=by have⟨d,e⟩:=h;have⟨b,off,c,f,i⟩:=d;exact⟨b,off,c,K3 f (by simpa[AV.isAgg] using e),i⟩
theorem VR.vw{id v}(h:VR w g (.vw id) v):g.K id/\v=g.slv id:=by have⟨b,c⟩:=h;exact⟨b.1,K3 b.2.1 (by simpa[AV.isAgg] using c)⟩
theorem VR.vs{id c n v}(h:VR w g (.vs id c n) v):g.K id/\ZeI (g.slv id) (g.ty id).size c n [v]:=by
 have⟨b,d⟩:=h;refine⟨b.1,?_⟩;have e:Kb v=false:=by simpa[AV.isAgg] using d
 have:v.cells.toList=[v]:=by cases v<;>simp_all[Vh,Kb]
 rw[this]at b;exact b.2
theorem VR.nw{id ver b k v}(h:VR w g (.nw id ver b k) v):g.K id/\ver<=g.ver id/\v.oneCell' =Uc/\(g.ver id=ver->v=g.row id b k):=by have⟨c,d⟩:=h;have⟨j,m,u,e,f,i⟩:=c;have:v=u:=K3 e (by simpa[AV.isAgg] using d);subst this;exact⟨j,m,f,i⟩
theorem VR.np{id ver c k i p v}(h:VR w g (.np id ver c k i p) v):g.K id/\ver<=g.ver id/\∃a,v=.pointer (Ua a)/\
 (g.ver id=ver->∃b len cap o t,g.row id c k=.slice (Ua ⟨b,0,Ub⟩) len cap/\ZV (RZ (g.ty id)) p=Ua (o,t)/\a=⟨b,i* (RZ (g.ty id)).size+o,Ub⟩):=by
 have⟨d,e⟩:=h;have⟨m,n,a,f,j⟩:=d;exact⟨m,n,a,K3 f (by simpa[AV.isAgg] using e),j⟩
theorem VR.mp{id v}(h:VR w g (.mp id) v):g.K id/\∃b,g.blk id=Ua b/\v=.map (Ua b):=by have⟨c,d⟩:=h;have⟨i,b,e,f⟩:=c;exact⟨i,b,e,K3 f (by simpa[AV.isAgg] using d)⟩
theorem VR.fn{f l v}(h:VR w g (.fn f l) v):∃b,v=Xi f b/\Kk w g l b:=by have⟨c,d⟩:=h;have⟨b,e,i⟩:=c;exact⟨b,K3 e (by simpa[AV.isAgg] using d),i⟩
theorem VR.nils{v}(h:VR w g .nils v):v=.slice Ub 0 0:=by have⟨b,c⟩:=h;exact K3 b (by simpa[AV.isAgg] using c)
theorem VR.nilr{v p}(h:VR w g (.nilr p) v):v=.pointer Ub\/v=.nilFunc\/v=.map none:=by
 have⟨b,d⟩:=h;have b:=ZcT b;have c:Kb v=false:=by simpa[AV.isAgg] using d
 obtain h|h|h:=b;.exact .inl (K3 h c)
 .exact .inr (.inl (K3 h c))
 exact .inr (.inr (K3 h c))
theorem VR.of1{a v}(h:Kw w g a v):VR w g a v:=by
 cases a with|tup l=>exact absurd h.1 (by simp[CV])|_=>exact h
theorem VR.to1{a v}(h:VR w g a v)(b:∀l,a≠ .tup l):Kw w g a v:=by
 cases a with|tup l=>exact absurd rfl (b l)|_=>exact h
theorem Xb k(n:Int):VR w g (.d (.int k) n) (.int k n):=⟨by simp[CV,Rd,Vh],.inr rfl⟩
theorem Xa(b:Bool):VR w g (.d .bool b) (.bool b):=⟨by simp[CV,Rd,Vh],.inr rfl⟩
theorem Ze6(s:V UInt8):VR w g (.d .str s) (.string ⟨s.toArray⟩):=⟨by simp[CV,Rd,Vh],.inr rfl⟩
theorem KT{a v}(h:CV w g a [v])(b:v.oneCell' =Uc)(c:a.isAgg=Ud):VR w g a v:=by
 apply VR.of1;refine⟨?_,.inr ?_⟩
 .have:v.cells= #[v]:=by cases v<;>simp_all[Vh,Va]
  simpa[this] using h
 cases v<;>simp_all[Kb,Va]
end
def Fr(w:X)(g:Gh)(F:Nat->AV)(tmps:Array Y):Prop:= ∀t,VR w g (F t) (tmps.getD t undef)
theorem Fr.mono{w w' g b F tmps}(d:Kt g.I w w')(c:g.Le b)(h:Fr w g F tmps):Fr w' b F tmps:=λt=>(h t).mono d c
theorem Zrr{w g} v:VR w g (Zfk v) v:=by
 unfold Zfk;split;.exact Xa _
 .exact Xb _ _
 .rename_i s;have⟨⟨l⟩⟩:=s;exact Ze6 l
 .exact⟨by simp[CV,Vh],.inr rfl⟩
 .exact⟨by simp[CV,Vh],.inr rfl⟩
 .exact⟨by simp[CV,Vh],.inr rfl⟩
 .exact⟨by simp[CV,Vh],.inr rfl⟩
 exact Gi
theorem Fr.eval{w g F}{a:Act}(h:Fr w g F a.tmps) x:VR w g (Zz F x) (a.eval x):=by
 cases x with
 |tmp t=>exact h t|const v=>exact Zrr v|global i=>exact Gi|func f=>
  simp[Zz]
  cases b:Vg f WO with|false=>exact Gi|true=>exact⟨by simp[CV,Kk,Act.eval,Vh,Xi,b],.inr rfl⟩
def Zv(B:KR)(e:AH)(w:X)(g:Gh)(nid:Nat)(v:AV)(r:Result Next):Prop:=
 ∃val b c d,(r=.ok (.value val) b\/(r=.ok .skip b/\val=undef))/\RH B e b c d/\g.Le c/\Kt g.I w b/\VR b c v val/\
  ∀id,c.K id->g.K id\/(nid<=id/\id<nid+Wv)
theorem Zv.pure{B H w g ow nid v val r}(b:RH B H w g ow)(c:r=.ok (.value val) w)(d:VR w g v val):Zv B H w g nid v r:=
 ⟨val,w,g,ow,.inl c,b,.refl g,λ_ _=>rfl,d,λ_ h=>.inl h⟩
theorem Zv.after_le{B i w g d nid v r}(c:g.Le d)(u:∀id,d.K id->g.K id)(h:Zv B i w d nid v r):Zv B i w g nid v r:=by have⟨val,y,j,f,k,m,n,p,q,s⟩:=h;exact⟨val,y,j,f,k,m,c.trans n,λb x=>p b (c.I b x),q,λid e=>(s id e).imp (u id) λh=>h⟩
theorem Ho{g:Gh}{nid}(b:∀id,g.K id->id<nid\/nid+Wv<=id):¬g.K nid:=λh=>by have:=b nid h;unfold Wv at this;omega
theorem Zv.new' {B H w g ow nid v val r t sv o ob}(c:RH B H w g ow)(e:¬g.K nid)
 (s:r=.ok (.value val) (w.alloc o)) (q:ORel (w.alloc o) (g.add nid t (Ua w.heap.size) sv) (λk=>k=w.heap.size) nid ob)
 (x:VR (w.alloc o) (g.add nid t (Ua w.heap.size) sv) v val):Zv B (ZX H nid (Ua ob)) w g nid v r:=by
 have d:∀k,k<w.heap.size->(w.alloc o).heap[k]? =w.heap[k]? :=λk i=>by show (w.heap.push o)[k]? =_;rw[Array.getElem?_push,Zg (by omega)]
 refine⟨val,w.alloc o,g.add nid t (Ua w.heap.size) sv,Xv ow nid λk=>k=w.heap.size,.inl s,?_,Gh.le_add e _ _ _,λb p=>d b (c.ilt b p),x,?_⟩;.have u:(w.alloc o).heap.size=w.heap.size+1:=Array.size_push ..;refine c.add e d (by omega) rfl rfl ⟨rfl,Vj _⟩ (λk i=>?_) q;subst i;refine⟨λn=>absurd (c.ilt _ n) (by omega),by omega,.inr c.size,λf j m=>?_⟩;have:=(c.sep f _ j m).2.1;omega
 intro id h;obtain rfl|h:=h;.exact .inr ⟨Vj _,by unfold Wv;omega⟩
 exact .inl h
theorem Zv.new{B H w g ow nid v val r t sv o ob}(b:RH B H w g ow)(c:∀id,g.K id->id<nid\/nid+Wv<=id)
 (e:r=.ok (.value val) (w.alloc o)) (d:ORel (w.alloc o) (g.add nid t (Ua w.heap.size) sv) (λk=>k=w.heap.size) nid ob)
 (f:VR (w.alloc o) (g.add nid t (Ua w.heap.size) sv) v val):Zv B (ZX H nid (Ua ob)) w g nid v r:=Zv.new' b (Ho c) e d f
structure Z0 (P:Program) (E:Kh):Prop where
 ty:∀T t,E.ty T=Ua t->Jq P E.ty T t
 mty:∀T m,E.mty T=Ua m->∃K V,P.underlying T=Ua (.map K V)/\E.ty K=Ua m.1/\E.ty V=Ua m.2
 pk:∀T,(E.pk T=1->∃e,P.underlying T=Ua (.pointer e))/\(E.pk T=2->∃a b c,P.underlying T=Ua (.func a b c))/\(E.pk T=3->∃a b,P.underlying T=Ua (.map a b))
 pz:∀T,E.pz T=Uc->∃e,P.underlying T=Ua (.pointer e)/\∀w:X,∃n,(Go.sizeOf e).run P w=.ok n w/\n≠0
 bd:∀T e,E.bd T=Ua e->∃z:Y,(∀w,(zeroValue T).run P w=.ok z w)/\z.cells= #[.pointer Ub,.slice Ub 0 0]
section ops
variable {P:Program}{E:Kh}{B:KR}{H:AH}{w:X}{g:Gh}{ow:Nat->Nat->Prop}{nid:Nat}{a:Act}{F:Nat->AV}{v:AV}{patch:Wm}{rd:V Nat}{o:Oper}
theorem Zlz{x}(c:RH B H w g ow)(hF:Fr w g F a.tmps)(b:o.op=.move x\/o.op=.assign x)(h:(ZP E nid o.op o.type (Zz F)).run H []=Ua ((v,patch),rd)):Zv B (Zu H patch) w g nid v ((execOp a.eval o).run P w):=by
 obtain b|b:=b<;>rw[b]at h<;>simp[ZP]at h<;>obtain⟨⟨rfl,rfl⟩,_⟩:=h<;>
  exact Zv.pure c (by unfold execOp;rw[b];rfl) (hF.eval x)
theorem Zss{c x y}(d:RH B H w g ow)(hF:Fr w g F a.tmps)(b:o.op=.pick c x y)(h:(ZP E nid o.op o.type (Zz F)).run H []=Ua ((v,patch),rd)):Zv B (Zu H patch) w g nid v ((execOp a.eval o).run P w):=by
 rw[b]at h;simp[ZP]at h;split at h
 .rename_i t f;obtain⟨⟨rfl,rfl⟩,_⟩:=h;have e:=(f▸hF.eval c).bool;cases t
  .exact Zv.pure d (by unfold execOp;rw[b];simp[e];rfl) (hF.eval y)
  exact Zv.pure d (by unfold execOp;rw[b];simp[e];rfl) (hF.eval x)
 simp[Zb]at h
theorem Zsq{x}(q:RH B H w g ow)(hF:Fr w g F a.tmps)(f:o.op=.nilCheck x)(h:(ZP E nid o.op o.type (Zz F)).run H []=Ua ((v,patch),rd)):Zv B (Zu H patch) w g nid v ((execOp a.eval o).run P w):=by
 rw[f]at h;simp[ZP,ZN,Zb,Z7]at h;obtain⟨m,⟨rfl,rfl⟩,_⟩:=h;have e:=hF.eval x;refine Zv.pure q ?_ e;cases r:Zz F x<;>rw[r]at m e<;>simp[ZnE]at m;.have⟨b,off,c,d,_⟩:=e.dp;simp[execOp,f,d]
 .have⟨_,s,t,b,_,_,d⟩:=e.ptr;simp[execOp,f,d]
 .have⟨_,s,t,b,_,_,d⟩:=e.vp;simp[execOp,f,d]
 .have⟨_,b,_,d⟩:=e.mp;simp[execOp,f,d]
 .have⟨p,d,_⟩:=e.fn;have⟨n,j,i,d⟩:∃n j i,a.eval x=.func (.func n) j i:=by
   obtain⟨_,k⟩|⟨_,k⟩:=ZcJ _ p;all_goals exact⟨_,_,_,d.trans k⟩
  simp[execOp,f,d]
 have⟨_,_,a,d,_⟩:=e.np;simp[execOp,f,d]
theorem Zsd{x i}(n:RH B H w g ow)(hF:Fr w g F a.tmps)(e:o.op=.extract x i)(h:(ZP E nid o.op o.type (Zz F)).run H []=Ua ((v,patch),rd)):Zv B (Zu H patch) w g nid v ((execOp a.eval o).run P w):=by
 rw[e]at h;simp[ZP]at h;split at h
 .rename_i l p;simp[ZD,Zr]at h;obtain⟨j,q,⟨rfl,rfl⟩,_⟩:=h;have f:=hF.eval x;rw[p]at f;have⟨vs,k,m⟩:=f;have key:∀l vs i,Jd w g l vs->l.nth i=Ua j->∃u,vs[i]? =Ua u/\Kw w g j u:=by
   intro l
   induction l using ZF.rec (motive_1:=λ_=>True) with
   |nil=>intro vs i _ h;simp[ZF.nth]at h|cons b l _ y=>
    intro vs i s h;obtain⟨u,r,rfl,c,d⟩:=s
    cases i with|zero=>simp[ZF.nth]at h;subst h;exact⟨u,rfl,c⟩|succ i=>simpa using y r i d h
   |_=>trivial
  have⟨u,c,d⟩:=key l vs i m q;refine Zv.pure n ?_ (VR.of1 d);simp[execOp,e,k,Instr.extract,c]
 simp[Zb]at h
end ops
def ZO(H:AH)(ow:Nat->Nat->Prop)(ids:V Nat)(b:Nat):Prop:= ∃id∈ids,H id≠Ub/\ow id b
theorem RH.free{B:KR}{H:AH}{w w' :X}{g:Gh}{ow:Nat->Nat->Prop}(h:RH B H w g ow){b:Nat}(x:∀id,H id≠Ub->¬ow id b)(u:¬g.I b)(s:B.own0 b\/B.w0.heap.size<=b)
 (d:∀k,k≠b->w'.heap[k]? =w.heap[k]?) (e:w'.heap.size=w.heap.size) (q:w'.os=w.os) (f:w'.tape=w.tape) (n:Y2 w' w):RH B H w' g ow where
 objs:=λk o r=>by have⟨i,j⟩:=h.objs k o r;exact⟨i,j.mono (λc m=>by grind) (.refl g) i rfl (by grind)⟩
 dist:=h.dist
 sep:=λk c i j=>by rw[e];exact h.sep k c i j
 ilt:=λc m=>by rw[e];exact h.ilt c m
 inew:=h.inew
 os:=q.trans h.os
 tape:=f.trans h.tape
 output:=n.trans h.output
 size:=by rw[e];exact h.size
 kept:=λc i j=>by
  have p:c≠b:=by grind
  rw[d c p];exact h.kept c i j
theorem XB:∀(b c:Wm) (H:AH),Zu H (b++c)=Zu (Zu H b) c|[],_,_=>rfl|p::b,c,H=>XB b c (ZX H p.1 p.2)
theorem RH.drops{B:KR}{w:X}{g:Gh}{ow:Nat->Nat->Prop}:∀(l:V Nat) {H:AH},RH B H w g ow->RH B (Zu H (l.map λid=>(id,Ub))) w g ow|[],_,h=>h|id::l,H,h=>by exact RH.drops l (h.drop id)
theorem RY:∀(l:V Nat) (H:AH) (k:Nat),Zu H (l.map λid=>(id,Ub)) k=if k∈l then Ub else H k
 |[],H,k=>by rfl|id::l,H,k=>by
  simp[Vca,Zu];rw[RY l];by_cases c:k∈l;.grind
  by_cases b:k=id;.subst b;simp[c,XY]
  simp[c,b,KB b]
theorem ZmO{a b:Ty}{x y:El (.prod a b)}{r:Bool}(h:eqEl (.prod a b) x y=Ua r):
 ∃p q,eqEl a x.1 y.1=Ua p/\eqEl b x.2 y.2=Ua q/\r=(p&&q):=by
 cases b with
 |unit=>
  exact⟨r,Uc,h,rfl,by simp⟩|_=>
  simp only[eqEl,Vga]at h;have⟨p,c,q,d,e⟩:=h;exact⟨p,q,c,d,by grind⟩
theorem ZmP:∀(t:Ty) (x y:El t),eqEl t x y=Ua Uc->x=y:=by
 intro t
 induction t with
 |int _|bool|str=>intro x y h;simpa[eqEl] using h|unit=>simp|sl t _=>intro x y h;simp[eqEl]at h|ref=>simp|pt _ _|lk _ _ _ _|pn _ _=>intro x y h;simp[eqEl]at h|prod a b c d=>
  intro x y h;have⟨p,q,f,i,j⟩:=ZmO h
  grind|arr n t r=>
  intro x y h;simp[eqEl]at h;have key:∀(l m:V (El t)),eqEl.eqs (eqEl t) l m=Ua Uc->l=m:=by
   intro l
   induction l with
   |nil=>intro m h;cases m<;>simp[eqEl.eqs]at h;rfl|cons a l e=>
    intro m h
    cases m with
    |nil=>simp[eqEl.eqs]at h|cons b m=>
     simp[eqEl.eqs,Vga,Z4]at h;grind
  grind
theorem ZuU:∀(t:Ty) (x:El t),t.key=Uc->eqEl t x x=Ua true:=by
 intro t
 induction t with
 |int _|bool|str=>intro x _;simp[eqEl]|unit=>intro x _;rfl|sl _ _|ref|pt _ _|lk _ _ _ _|pn _ _=>intro x h;simp[Ty.key]at h|prod a b c f=>
  intro x h;simp[Ty.key,Vc]at h;have i:=c x.1 h.1
  cases b with
  |unit=>assumption|_=>
   show (eqEl a x.1 x.1).bind _=_
   grind
 |arr n t e=>
  intro x h;simp[eqEl];have key:∀l:V (El t),eqEl.eqs (eqEl t) l l=Ua true:=by
   intro l
   induction l with|nil=>rfl|cons a l d=>simp[eqEl.eqs,e a h,d]
  grind
theorem XO{t:Ty}(c:t.key=Uc){x y:El t}:Zs t x y=Uc↔x=y:=by
 constructor
 .intro h;unfold Zs at h
  cases b:eqEl t x y with
  |none=>grind|some r=>
   rw[b]at h;subst h;exact ZmP t x y b
 rintro rfl;simp[Zs,ZuU t x c]
theorem ZbM{t:Ty}(h:t.keyOk=Uc):t.key=true:=by simp[Ty.keyOk]at h;grind
def JR{α β:Type}(eq:α->α->Bool)(k:α):V (α×β)->Option Nat|[]=>Ub|e::l=>bif eq k e.1 then Ua 0 else(JR eq k l).map (· +1)
theorem Zci{α β:Type}(eq:α->α->Bool)(k:α):∀(l:V (α×β)),ZT eq k l=(JR eq k l).bind λj=>(l[j]?).map Vra
 |[]=>rfl|e::l=>by
  simp[ZT,JR]
  cases eq k e.1 with
  |true=>rfl|false=>
   simp[Zci eq k l];cases JR eq k l<;>simp
theorem Zck{α β:Type}(eq:α->α->Bool)(k:α)(v:β):∀(l:V (α×β)),Ky eq k v l=match JR eq k l with|some j=>l.set j (k,v) |none=>l++[(k,v)]
 |[]=>rfl|e::l=>by
  simp[Ky,JR]
  cases eq k e.1 with
  |true=>rfl|false=>
   simp[Zck eq k v l];grind
theorem Zcj{α β:Type}(eq:α->α->Bool)(k:α):∀(l:V (α×β)) (j:Nat),JR eq k l=Ua j->∃e,l[j]? =Ua e/\eq k e.1=Uc
 |[],j,h=>by simp[JR]at h|e::l,j,h=>by
  simp[JR]at h
  cases c:eq k e.1 with
  |true=>grind|false=>
   rw[c]at h;simp[Ze,Option.map_eq_some_iff]at h;obtain⟨i,b,rfl⟩:=h;have⟨d,f,m⟩:=Zcj eq k l i b;grind
theorem Zff{t:Ty}{β:Type}(c:t.key=Uc){k:El t}:∀{l:V (El t×β)}{x:β},ZT (Zs t) k l=Ua x->(k,x)∈l
 |[],_,h=>by simp[ZT]at h|e::l,x,h=>by
  simp[ZT]at h
  cases b:Zs t k e.1 with
  |true=>
   have:=(XO c).1 b
   grind|false=>rw[b]at h;exact List.mem_cons_of_mem _ (Zff c h)
theorem Zfe{t:Ty}{β:Type}(c:t.key=Uc){k:El t}:∀{l:V (El t×β)},ZT (Zs t) k l=Ub->k ∉ l.map Vf
 |[],_=>by simp|e::l,h=>by
  simp[ZT]at h
  cases b:Zs t k e.1 with
  |true=>grind|false=>
   rw[b]at h;simp only[Vca,Vja,not_or];exact⟨λd=>by rw[(XO c).2 d]at b;grind,Zfe c h⟩
theorem ZaD{t:Ty}{β:Type}(b:t.key=Uc){k:El t}{v:β}:∀{l:V (El t×β)},(k∈l.map Vf->(Ky (Zs t) k v l).map Vf=l.map Vf)/\(k ∉ l.map Vf->Ky (Zs t) k v l=l++[(k,v)])
 |[]=>by simp[Ky]|e::l=>by
  have h:=ZaD b (k:=k) (v:=v) (l:=l);simp[Ky]
  cases c:Zs t k e.1 with
  |true=>
   have:=(XO b).1 c
   grind|false=>
   have f:k≠e.1:=λd=>by rw[(XO b).2 d]at c;grind
   grind
theorem Zh8{t:Ty}{β:Type}(b:t.key=Uc){k:El t}{v:β}{l:V (El t×β)}(c:(l.map Vf).Nodup):((Ky (Zs t) k v l).map Vf).Nodup:=by
 by_cases h:k∈l.map Vf;.rw[(ZaD b).1 h];omega
 rw[(ZaD b).2 h,Vqa,Vla];grind
theorem Zgr{t:Ty}{β:Type}(d:t.key=Uc){k c:El t}{v x:β}:∀{l:V (El t×β)},(l.map Vf).Nodup->(c,x)∈Ky (Zs t) k v l->(c=k/\x=v)\/(c≠k/\(c,x)∈l)
 |[],_,h=>by simp[Ky]at h;grind|e::l,f,h=>by
  simp[Vca,Vsa]at f;simp[Ky]at h
  cases b:Zs t k e.1 with
  |true=>
   have j:=(XO d).1 b
   grind|false=>
   rw[b]at h;simp[Ze,Vja]at h;obtain h|h:=h;.refine .inr ⟨λi=>?_,by grind⟩;rw[<-h]at b;rw[(XO d).2 i.symm]at b;grind
   exact(Zgr d f.2 h).imp (λh=>h) λ⟨m,n⟩=>by grind
theorem ZdV{α β:Type}{r:α->β->Prop}:∀{l:V α}{m:V β},l.length=m.length->(∀(n:Nat) a b,l[n]? =Ua a->m[n]? =Ua b->r a b)->Fa r l m|[],[],_,_=>trivial|a::l,b::m,h,c=>⟨c 0 a b rfl rfl,ZdV (by grind) λn x y d e=>c (n+1) x y d e⟩
theorem JX{n:Nat}:∀{l:V Nat},KW n l=Uc↔n∈l|[]=>by simp[KW]|k::l=>by simp only[KW,Bool.or_eq_true,Nat.beq_eq,Vja,JX]
theorem ZgA:∀{l:V Nat},G5 l=Uc↔l.Nodup|[]=>by simp[G5]|n::l=>by simp only[G5,Vc,Vna,Vsa,ZgA];rw[<-JX,Voa]
theorem ZaM:∀{l m:V Nat},Xe l m=Uc↔∀n∈l,n ∉ m|[],m=>by simp[Xe]|n::l,m=>by simp only[Xe,Vc,Vna,List.forall_mem_cons,ZaM];rw[<-JX,Voa]
theorem Gu{b:Bool}{u:Unit}(h:Zw b=Ua u):b=true:=by
 cases b<;>simp[Zw]at h;rfl
theorem Zi2{α β:Type}{r:α->β->Prop}:∀{l:V α}{m:V β},Fa r l m->∀{n:Nat}{a:α}{b:β},l[n]? =Ua a->m[n]? =Ua b->r a b|[],[],_,_,_,_,_,_|_::_,_::_,⟨_,_⟩,0,_,_,_,_=>by grind|_::_,_::_,⟨_,q⟩,n+1,a,b,h,c=>Zi2 q (by assumption) (by grind)
theorem ZkX{P:Program}{θ:Z->Option Ty}{T:Z}{t:Ty}(h:Jq P θ T (.sl t))(w:X):(zeroValue T).run P w=.ok (.slice Ub 0 0) w:=by
 have⟨i,z,d,_,_,e,b,k⟩:=h.info;have f:z.cells.toList=[.slice Ub 0 0]:=by
  unfold D1 at b
  cases c:(Ty.sl t).data with
  |true=>
   rw[c]at b
   match j:z.cells.toList,b with|[.slice Ub 0 0],_=>rfl
  |false=>
   rw[c]at b
   match j:z.cells.toList,b with|[.slice Ub 0 0],_=>rfl
 have:z=.slice Ub 0 0:=K3 f (by assumption);subst this;simp[zeroValue,typeInfo,Vn,run_program,Vl,d,Vs,e]
section
variable {B:KR}{H:AH}{w:X}{g:Gh}{ow:Nat->Nat->Prop}
theorem Zcv{t b:Ty}{x:V (El t)}{y:El (.sl b)}(h:KC (.sl t) (.sl b) x=Ua y):∃e:t=b,y=(e▸x:V (El b)):=by have⟨e,h⟩:=KS h;grind
theorem Zet{t:Ty}{x:AV}{val:Y}{y:V (El t)}{ids l l' :V Nat}(s:RH B H w g ow)(k:VR w g x val)(h:(J1 t x).run H l=Ua ((y,ids),l')):
 (ids=[]/\y=[]/\val=.slice Ub 0 0)\/∃id,ids=[id]/\H id≠Ub/\((y=[]/\val=.slice Ub 0 0)\/∃b cap cs e css,ow id b/\val=.slice (Ua ⟨b,0,Ub⟩) y.length cap/\w.heap[b]? =Ua (.cells cs e (0,0))/\
   y.length<=cap/\cap*t.size<=cs.size/\Fa (Rd w g.I t) y css/\css.flatten<+:cs.toList):=by
 unfold J1 at h;split at h
 .rename_i id;rw[ZZ]at h;split at h
  .rename_i J xs f;simp[ZD,Zr]at h;obtain⟨K,p,⟨rfl,rfl⟩,_⟩:=h;obtain⟨i,rfl⟩:=KS p;cases i;have⟨_,d⟩:=k.vw;have⟨_,_,r⟩:=s.objs id _ f;grind
  simp[Zb]at h
 .rename_i id n;rw[ZZ]at h;split at h
  .rename_i J xs f;simp[ZD,Vb]at h;obtain⟨K,p,⟨rfl,rfl⟩,_⟩:=h;obtain⟨i,rfl⟩:=KS p;cases i;have⟨_,d⟩:=k.vs;have⟨_,D,r⟩:=s.objs id _ f;refine .inr ⟨id,rfl,by grind,?_⟩;obtain⟨u,_,rfl,d⟩|⟨b,len,cap,m,u,M,N,O,d⟩:=d
   .grind
   obtain⟨_,_,c⟩|⟨L,q,cs,e,css,_,C,c,A,Q,R,j,z⟩:=r;.grind
   rw[u]at c;obtain⟨rfl,rfl,rfl⟩:=c;refine .inr ⟨b,m,cs,e,css.take n,C,?_,A,?_,?_,j.take n,?_⟩;.grind
   .grind
   .have:m*t.size<=cap*t.size:=Nat.mul_le_mul_right _ (by omega);omega
   refine List.IsPrefix.trans ⟨(css.drop n).flatten,?_⟩ z;rw[<-List.flatten_append,Vv]
  simp[Zb]at h
 .obtain⟨⟨rfl,rfl⟩,_⟩:=h;exact .inl ⟨rfl,rfl,k.nils⟩
 simp[Zb]at h
theorem ZgF{t:Ty}{x:AV}{val:Y}{y:V (El t)}{ids l l' :V Nat}(p:RH B H w g ow)(r:VR w g x val)(h:(J1 t x).run H l=Ua ((y,ids),l')):WF w g.I (ZO H ow ids) t y val:=by
 obtain⟨_,c,d⟩|⟨id,rfl,i,⟨c,d⟩|⟨b,cap,cs,e,f,q,c,d,j,k,m,n⟩⟩:=Zet p r h;.exact .inl ⟨c,d⟩
 .exact .inl ⟨c,d⟩
 exact .inr ⟨b,cap,cs,e,f,c,⟨id,by simp,i,q⟩,d,j,k,m,n⟩
theorem WF.own{I J:Nat->Prop}{t:Ty}{xs:V (El t)}{d:Y}(h:WF w I J t xs d){b:Nat}(c:WQ d=Ua b):J b:=by
 obtain⟨_,rfl⟩|⟨e,_,_,_,_,rfl,f,_⟩:=h;.simp[WQ]at c
 simp[WQ]at c;grind
theorem WF.one{I J:Nat->Prop}{t:Ty}{xs:V (El t)}{b:Y}(h:WF w I J t xs b):b.oneCell' =Uc/\Kb b=false:=by
 obtain⟨_,rfl⟩|⟨c,_,_,_,_,rfl,d,_⟩:=h<;>exact⟨rfl,rfl⟩
theorem RF.put{u:Type}{w' :X}{I J y:Nat->Prop}{t:Ty}{top:Option Nat}{row e:u->Y}{c C:u->V (El t)->Prop}{hole:Option u}(h:RF w I J t top row c hole){k0:u}{x0:V (El t)}
 (d:∀k,k≠k0->e k=row k) (r:∀k x,C k x->(k=k0/\x=x0)\/(k≠k0/\c k x)) (N:hole=Ub\/hole=Ua k0) (O:WF w' I y t x0 (e k0))
 (q:∀k x,c k x->k≠k0->WF w I J t x (row k)->WF w' I y t x (row k)) (M:∀b,WQ (e k0)=Ua b->(∀k x,c k x->k≠k0->WQ (row k)≠Ua b)/\top≠Ua b):RF w' I y t top e C none:=by
 have i:∀k,k≠k0->hole≠Ua k:=by grind
 refine⟨λk x p _=>?_,λk s x K b p z A _ _ m n=>?_,λk x b p _ m=>?_⟩
 .obtain⟨rfl,rfl⟩|⟨f,j⟩:=r k x p
  .omega
  rw[d k f];exact q k x j f (h.rd k x j (i k f))
 .obtain⟨rfl,rfl⟩|⟨f,j⟩:=r k x p
  .grind
  rw[d k f]at m;obtain⟨rfl,rfl⟩|⟨D,L⟩:=r s K z;.grind
  rw[d s D]at n;exact h.ds k s x K b j L A (i k f) (i s D) m n
 obtain⟨rfl,rfl⟩|⟨f,j⟩:=r k x p;.grind
 rw[d k f]at m;exact h.tp k x b j (i k f) m
theorem RF.take{n:Type}{w' :X}{I J p:Nat->Prop}{t:Ty}{top:Option Nat}{row:n->Y}{c:n->V (El t)->Prop}(h:RF w I J t top row c Ub)(k0:n)
 (e:∀k x,c k x->k≠k0->WF w I J t x (row k)->WF w' I p t x (row k)):RF w' I p t top row c (Ua k0):=by
 have m:∀k,Ua k0≠Ua k->k≠k0:=by grind
 exact⟨λk x d q=>e k x d (m k q) (h.rd k x d (by simp)),λk r x s b d i j _ _ f=>h.ds k r x s b d i j (by simp) (by simp) f,λk x b d _ f=>h.tp k x b d (by simp) f⟩
theorem RL.nil{I J:Nat->Prop}{t:Ty}:RL w I J t [] []:=⟨rfl,⟨by simp,by simp,by simp⟩⟩
theorem RL.row{I J:Nat->Prop}{t:Ty}{b:V Y}{xs:V (V (El t))}(h:RL w I J t b xs){i:Nat}{x:V (El t)}(c:xs[i]? =Ua x):WF w I J t x (b.getD i undef):=h.2.rd i x c (by simp)
theorem RL.mono{w' :X}{I d J e:Nat->Prop}{t:Ty}{c:V Y}{xs:V (V (El t))}(m:Kt I w w')(f:∀b,I b->d b)(hJ:∀b,J b->e b)(n:∀i x b,xs[i]? =Ua x->WQ (c.getD i undef)=Ua b->w'.heap[b]? =w.heap[b]?)(h:RL w I J t c xs):RL w' d e t c xs:=
 ⟨h.1,⟨λk x j _=>(h.row j).mono m f (by grind) (by grind),h.2.ds,h.2.tp⟩⟩
theorem RL.single{I J:Nat->Prop}{t:Ty}{v:Y}{x:V (El t)}(h:WF w I J t x v):RL w I J t [v] [x]:=by
 refine⟨rfl,⟨by grind,by grind,by simp⟩⟩;all_goals grind
theorem RL.append{I z A:Nat->Prop}{t:Ty}{k m:V Y}{xs u:V (V (El t))}(a:RL w I z t k xs)(b:RL w I A t m u)(D:∀c,z c->¬A c):RL w I (λc=>z c\/A c) t (k++m) (xs++u):=by
 have key:∀i x,(xs++u)[i]? =Ua x->(i<xs.length/\xs[i]? =Ua x/\(k++m).getD i undef=k.getD i undef)\/(xs.length<=i/\u[i - xs.length]? =Ua x/\(k++m).getD i undef=m.getD (i - xs.length) undef):=by
  intro i x h;obtain s|s:=Nat.lt_or_ge i xs.length;.rw[Vea s]at h;exact .inl ⟨s,h,by simp only[Vaa];rw[Vea (by rw[a.1];omega)]⟩
  rw[Vo s]at h;exact .inr ⟨s,h,by simp only[Vaa];rw[Vo (by rw[a.1];omega),a.1]⟩
 refine⟨by simp[a.1,b.1],⟨λi x h _=>?_,λi j x y c h K C _ _ f d=>?_,by simp⟩⟩
 .obtain⟨_,n,e⟩|⟨_,n,e⟩:=key i x h
  .rw[e];exact(a.row n).mono (λ_ _=>rfl) (by simp) (by grind) (by simp)
  rw[e];exact(b.row n).mono (λ_ _=>rfl) (by simp) (by grind) (by simp)
 obtain⟨n,e,p⟩|⟨n,e,p⟩:=key i x h<;>obtain⟨J,q,r⟩|⟨J,q,r⟩:=key j y K;.rw[p]at f;rw[r]at d;exact a.2.ds i j x y c e q C (by simp) (by simp) f d
 .rw[p]at f;rw[r]at d;exact D c ((a.row e).own f) ((b.row q).own d)
 .rw[p]at f;rw[r]at d;exact D c ((a.row q).own d) ((b.row e).own f)
 rw[p]at f;rw[r]at d;exact b.2.ds _ _ x y c e q (by omega) (by simp) (by simp) f d
def HC(w:X)(I J:Nat->Prop)(c t:Ty)(m:V (El c×V (El t)))(v:Y):Prop:=
 ∃(row:El c->Y) (b:Nat) (es:Array MapEntry) (clock:Nat),v=.map (Ua b)/\J b/\w.heap[b]? =Ua (.map es clock)/\Ix es clock/\RF w I J t (Ua b) row (λk x=>(k,x)∈m) Ub/\(m.map Vf).Nodup/\
  (∀k,k ∉ m.map Vf->row k=.slice Ub 0 0)/\Fa (λkv e=>(Rd w I c kv.1 e.key.cells.toList/\Kb e.key=c.agg)/\e.val=row kv.1) m es.toList
theorem HC.mono{w' :X}{I i J j:Nat->Prop}{c t:Ty}{m:V (El c×V (El t))}{v:Y}(n:Kt I w w')(k:∀b,I b->i b)(hJ:∀b,J b->j b)(y:∀b,J b->w'.heap[b]? =w.heap[b]?)(h:HC w I J c t m v):HC w' i j c t m v:=by have⟨row,b,es,clock,p,q,z,d,r,s,u,x⟩:=h;exact⟨row,b,es,clock,p,hJ b q,by grind,d,r.mono n k hJ y,s,u,x.mono λkv e f=>⟨⟨Rd.mono n k c _ _ f.1.1,f.1.2⟩,f.2⟩⟩
theorem Xs.of_obj{J:Nat->Prop}{id u:Nat}{t:Ty}{xs:V (V (El t))}(h:ORel w g J id (.rows t xs u Ub)):Xs w g.I J t xs (g.slv id):=by
 have⟨_,_,d,A⟩:=h;have k:∀i x,xs[i]? =Ua x->((Vp xs.length).map λi:Nat=>g.row id (.int .i64) (i:Int)).getD i undef=g.row id (.int .i64) (i:Int):=by grind
 refine⟨(Vp xs.length).map λi:Nat=>g.row id (.int .i64) (i:Int),⟨by simp,⟨λi x c _=>?_,λi j x y b c n m _ _ f=>?_,by simp⟩⟩,?_⟩;.rw[k i x c];exact d.rd i x c (by simp)
 .rw[k i x c]at f;rw[k j y n];exact d.ds i j x y b c n m (by simp) (by simp) f
 obtain⟨D,_,K⟩|⟨b,cap,cs,e,f,p,q,r,s,z,L⟩:=A;.grind
 refine .inr ⟨b,cap,cs,e,p,λi x c=>?_,q,r,s,z,λi M=>?_⟩;.rw[k i x c];intro C;exact d.tp i x b c (by simp) C f
 grind
theorem HC.of_obj{J:Nat->Prop}{id u:Nat}{d t:Ty}{m:V (El d×V (El t))}(h:ORel w g J id (.mrows d t m u Ub)):∃b,g.blk id=Ua b/\HC w g.I J d t m (.map (Ua b)):=by have⟨_,_,r,i,c,b,es,clock,q,k,n,f,p⟩:=h;refine⟨b,q,g.row id d,b,es,clock,rfl,k,n,f,?_,i,c,p.mono λkv e j=>⟨⟨by simpa only[CV] using j.1.1,by simpa[AV.isAgg] using j.1.2⟩,j.2⟩⟩;grind
def Za6(c:V Y):(b:Ty)->El b->Y:=λb k=>if h:b=.int .i64 then c.getD ((h▸k:El (.int .i64)):Int).toNat undef else .slice Ub 0 0
theorem Zkh(b:V Y)(i:Nat):Za6 b (.int .i64) (i:Int)=b.getD i undef:=by rfl
def rowK{c:Ty}(row:El c->Y):(b:Ty)->El b->Y:=λb k=>if h:b=c then row (h▸k) else .slice Ub 0 0
theorem ZpK{b:Ty}(row:El b->Y)(k:El b):rowK row b k=row k:=by simp[rowK]
theorem Xs.obj{J:Nat->Prop}{t:Ty}{xs:V (V (El t))}{v:Y}(h:Xs w g.I J t xs v)(id:Nat):∃b r,ORel w (g.add id (.sl t) b v r) J id (.rows t xs 0 Ub):=by
 have⟨k,⟨R,f⟩,u⟩:=h;have d:∀b,(g.add id (.sl t) b v (Za6 k)).row id=Za6 k:=λb=>by simp[Gh.add]
 obtain⟨rfl,rfl⟩|⟨b,cap,cs,e,z,N,A,C,D,K,O⟩:=u;.refine⟨Ub,Za6 k,by simp[Gh.add],by simp[Gh.add],?_,.inl ⟨rfl,by simp[Gh.add],by simp[Gh.add]⟩⟩;exact⟨by simp,by simp,by simp⟩
 refine⟨Ua b,Za6 k,by simp[Gh.add],by simp[Gh.add],?_,.inr ⟨b,cap,cs,e,by simp[Gh.add],z,by simp[Gh.add,A],C,D,K,λi Q=>?_⟩⟩
 .rw[d];refine⟨λi x m L=>?_,λi j x y c m M s n p q=>?_,λi x c m _ q=>?_⟩
  .exact f.rd i x m L
  .exact f.ds i j x y c m M s n p q
  rw[Zkh]at q;simp[Gh.add];grind
 rw[d,Zkh];grind
theorem HC.obj{J:Nat->Prop}{d t:Ty}{m:V (El d×V (El t))}{b:Nat}(h:HC w g.I J d t m (.map (Ua b)))(id:Nat):∃r,ORel w (g.add id (.sl t) (Ua b) undef r) J id (.mrows d t m 0 Ub):=by
 have⟨row,x,es,clock,j,n,p,f,q,s,y,u⟩:=h;cases j;have c:(g.add id (.sl t) (Ua b) undef (rowK row)).row id d=row:=by funext k;simp[Gh.add,ZpK]
 refine⟨rowK row,by simp[Gh.add],by simp[Gh.add],?_,s,?_,b,es,clock,by simp[Gh.add],n,p,f,?_⟩;.rw[c];simpa[Gh.add] using q
 .grind
 rw[c];exact u.mono λkv e i=>⟨⟨by exact i.1.1,.inr (by simpa[AV.isAgg] using i.1.2)⟩,i.2⟩
theorem ZgG{t:Ty}{x:AV}{val:Y}{y:V (V (El t))}{ids l l' :V Nat}(e:RH B H w g ow)(c:VR w g x val)(h:(YW t x).run H l=Ua ((y,ids),l')):Xs w g.I (ZO H ow ids) t y val/\(ids=[]\/∃id,ids=[id]/\H id≠Ub):=by
 unfold YW at h;split at h
 .rename_i id;rw[ZZ]at h;split at h
  .rename_i m xs u d;simp[ZD,Vb]at h;obtain⟨n,k,⟨rfl,rfl⟩,_⟩:=h;obtain⟨i,rfl⟩:=KS k;cases i;have⟨_,j⟩:=c.vw;rw[j];exact⟨(Xs.of_obj (e.objs id _ d).2).mono (λ_ _=>rfl) (by simp) (λb f=>⟨id,by simp,by grind,f⟩) (by simp),by grind⟩
  simp[Zb]at h
 .obtain⟨⟨rfl,rfl⟩,_⟩:=h;exact⟨⟨[],RL.nil,.inl ⟨rfl,c.nils⟩⟩,.inl rfl⟩
 simp[Zb]at h
def Gh.bump(g:Gh)(id v:Nat)(r:(b:Ty)->El b->Y):Gh:=
 {g with ver:=λk=>if k=id then v else g.ver k,row:=λk=>if k=id then r else g.row k}
theorem Gh.le_bump{g:Gh}{id v:Nat}{r:(b:Ty)->El b->Y}(h:g.ver id<v):g.Le (g.bump id v r) where
 I:=λ_ h=>h
 K:=λ_ h=>h
 ty:=λ_ _=>rfl
 blk:=λ_ _=>rfl
 slv:=λ_ _=>rfl
 ver:=λk _=>by show g.ver k<=if k=id then v else g.ver k;grind
 row:=λk _ e=>by have e:(if k=id then v else g.ver k)=g.ver k:=e;show (if k=id then r else g.row k)=g.row k;grind
theorem RH.bump{w' :X}(h:RH B H w g ow){id v:Nat}{r:(O:Ty)->El O->Y}{C:Yh}{J:Nat->Prop}(D:g.K id)(N:g.ver id<v)
 (x:∀b,g.I b\/(∃k,k≠id/\H k≠Ub/\ow k b)->w'.heap[b]? =w.heap[b]?) (M:w.heap.size<=w'.heap.size) (y:w'.os=w.os) (j:w'.tape=w.tape) (m:Y2 w' w)
 (i:∀b,b<B.w0.heap.size->¬B.own0 b->w'.heap[b]? =w.heap[b]?)
 (hJ:∀b,J b->¬g.I b/\b<w'.heap.size/\(B.own0 b\/B.w0.heap.size<=b)/\∀k,k≠id->H k≠Ub->¬ow k b) (L:ORel w' (g.bump id v r) J id C):RH B (ZX H id (Ua C)) w' (g.bump id v r) (Xv ow id J) where
 objs:=λk o u=>by
  by_cases c:k=id;.subst c;rw[XY]at u;cases u;rw[Xd];exact⟨D,L⟩
  rw[KB c]at u;rw[Je c];obtain⟨f,e⟩:=h.objs k o u;exact⟨f,e.mono (λb z=>by grind) (Gh.le_bump N) f (Zg c) (by grind)⟩
 dist:=λk A b f e n s=>by
  by_cases c:k=id<;>by_cases d:A=id;.omega
  .subst c;rw[KB d]at e;rw[Xd]at n;rw[Je d]at s;grind
  .subst d;rw[KB c]at f;rw[Xd]at s;rw[Je c]at n;grind
  rw[KB c]at f;rw[KB d]at e;rw[Je c]at n;rw[Je d]at s;exact h.dist k A b f e n s
 sep:=λk b f e=>by
  by_cases c:k=id;.subst c;rw[Xd]at e;obtain⟨p,q,r,_⟩:=hJ b e;exact⟨p,q,r⟩
  rw[KB c]at f;rw[Je c]at e;obtain⟨p,q,r⟩:=h.sep k b f e;exact⟨p,by omega,r⟩
 ilt:=λb z=>by have:=h.ilt b z;omega
 inew:=h.inew
 os:=y.trans h.os
 tape:=j.trans h.tape
 output:=m.trans h.output
 size:=by have:=h.size;omega
 kept:=λb f e=>(i b f e).trans (h.kept b f e)
theorem ZpT{I J:Nat->Prop}{t:Ty}{xs:V (El t)}{m:Y}(h:WF w I J t xs m){i:Nat}{x:El t}(y:xs[i]? =Ua x):
 ∃b cap cs e css c,m=.slice (Ua ⟨b,0,Ub⟩) xs.length cap/\J b/\w.heap[b]? =Ua (.cells cs e (0,0))/\xs.length<=cap/\cap*t.size<=cs.size/\
  Fa (Rd w I t) xs css/\css[i]? =Ua c/\Rd w I t x c/\∃r,cs.toList=(css.take i).flatten++c++((css.drop (i+1)).flatten++r)/\(css.take i).flatten.length=i*t.size/\
   ∀j,(css.set i j).flatten++r=(css.take i).flatten++j++((css.drop (i+1)).flatten++r):=by
 obtain⟨rfl,_⟩|⟨b,cap,cs,e,css,p,n,q,s,u,d,r,A⟩:=h;.grind
 have⟨c,k,f⟩:=d.get i x y;have⟨C,z,D⟩:=ZaP k t.size (Rd.all_length d);exact⟨b,cap,cs,e,css,c,p,n,q,s,u,d,k,f,r,by grind,z,by grind⟩
theorem Zfa(z:RH B H w g ow){id ver:Nat}{p:Ty}{k:El p}(_hK:g.K id){r:(t:Ty)×V (El t)}{l l' :V Nat}(h:(YK id ver p k).run H l=Ua (r,l')):
 H id≠Ub/\g.ty id=.sl r.1/\g.ver id=ver/\WF w g.I (ow id) r.1 r.2 (g.row id p k):=by
 simp only[YK]at h;rw[ZZ]at h;split at h
 .rename_i t xs u n;simp only[ZN,ZD,Zb,ZW,Z7]at h;obtain⟨d,i,C,x,s,rfl,_⟩:=h;have d:=Vk d;obtain⟨rfl,rfl⟩:=KS C;obtain⟨_,j,b,c,_⟩:=z.objs id _ n;unfold idx at s;split at s
  .rename_i J;have L:=c.rd i.toNat x s (by simp);grind
  grind
 .rename_i D t m u n;simp only[ZN,ZD,Zb,ZW,Z7,Vc]at h;obtain⟨⟨d,f⟩,y,q,rfl,_⟩:=h;have d:=Vk d;obtain⟨rfl,rfl⟩:=KS q;obtain⟨_,j,b,c,_,e,_⟩:=z.objs id _ n;rw[n];refine⟨by simp,j,b.trans d,?_⟩
  cases A:ZT (Zs p) y m with|none=>exact .inl ⟨rfl,e y (Zfe (ZbM f) A)⟩|some x=>exact c.rd y x (Zff (ZbM f) A) (by simp)
 simp[Zb]at h
theorem Zce(e:RH B H w g ow){id ver:Nat}{b:Ty}{k:El b}{v:Y}(f:VR w g (.nw id ver b k) v){r:(t:Ty)×V (El t)}{l l' :V Nat}(h:(YK id ver b k).run H l=Ua (r,l')):
 H id≠Ub/\g.ty id=.sl r.1/\g.ver id=ver/\v=g.row id b k/\WF w g.I (ow id) r.1 r.2 v:=by
 have⟨d,_,_,c⟩:=f.nw;have⟨i,j,m,n⟩:=Zfa e d h;grind
end
theorem ZcH{a:AV}{t}(h:a.fits t=Uc):a≠ .junk/\∀l,a≠ .tup l:=by
 constructor;.rintro rfl;simp[AV.fits]at h
 rintro l rfl;simp[AV.fits]at h
theorem Zf0{a:AV}{t}(h:a.fits t=Uc)(b:a.solid=Uc):a.isAgg=t.agg:=by
 obtain h|⟨n,rfl⟩:=Zvf h;.exact h
 simp[AV.solid]at b
section ops
variable {P:Program}{E:Kh}{B:KR}{H:AH}{w:X}{g:Gh}{ow:Nat->Nat->Prop}{nid:Nat}{a:Act}{F:Nat->AV}{v:AV}{patch:Wm}{rd:V Nat}{o:Oper}
theorem Zrs{id t b sv}:VR w (g.add id t (Ua b) sv) (.ptr id []) (.pointer (Ua ⟨b,0,Ub⟩)):=by refine KT ?_ rfl rfl;exact⟨.inl rfl,0,t,b,by simp[Gh.add,WW],by simp[Gh.add],rfl⟩
theorem RO(w:X) o:(w.alloc o).heap[w.heap.size]? =Ua o:=by show (w.heap.push o)[w.heap.size]? =_;simp
theorem RP{w:X}{o k}(h:k<w.heap.size):(w.alloc o).heap[k]? =w.heap[k]? :=by show (w.heap.push o)[k]? =_;grind
theorem Zlo(d:RH B H w g ow)(c:¬g.K nid){t sv b ob x cs}(h:CV w g x cs):CV (w.alloc ob) (g.add nid t b sv) x cs:=
 CV.mono (λ_ e=>RP (d.ilt _ e)) (Gh.le_add c _ _ _) x cs h
theorem ZrG(c:RH B H w g ow)(d:∀id,g.K id->id<nid\/nid+Wv<=id){t sv b ob x cs}(h:CV w g x cs):CV (w.alloc ob) (g.add nid t b sv) x cs:=Zlo c (Ho d) h
theorem Zon(b:RH B H w g ow)(f:∀id,g.K id->id<nid\/nid+Wv<=id){t T c cells}(e:c.fits t=Uc)(d:CV w g c cells.toList){r}
 (h:r=.ok (.value (.pointer (Ua ⟨w.heap.size,0,Ub⟩))) (w.alloc (.cells cells T))):Zv B (ZX H nid (Ua (.var t c))) w g nid (.ptr nid []) r:=by
 refine Zv.new (t:=t) (sv:=undef) b f h ?_ Zrs;refine⟨by simp[Gh.add],e,w.heap.size,cells,T,by simp[Gh.add],rfl,RO _ _,?_,ZrG b f d⟩;have:=CV.length c t _ e d;omega
theorem Zr3{T}(e:Z0 P E)(d:RH B H w g ow)(f:∀id,g.K id->id<nid\/nid+Wv<=id)(c:o.op=.alloc T)(h:(ZP E nid o.op o.type (Zz F)).run H []=Ua ((v,patch),rd)):
 Zv B (Zu H patch) w g nid v ((execOp a.eval o).run P w):=by
 rw[c]at h;simp[ZP]at h;simp[ZD,Vb]at h;obtain⟨t,i,⟨rfl,rfl⟩,_⟩:=h;have⟨z,j,b⟩:=(e.ty T t i).run_zerox (E.zx T) w;refine Zon d f (T:=T) (b w g).2 (b w g).1.1 ?_;simp only[execOp,c,Instr.alloc,Vn,j,run_newObj];rfl
theorem Zr7{T x}(d:RH B H w g ow)(hF:Fr w g F a.tmps)(e:∀id,g.K id->id<nid\/nid+Wv<=id)(c:o.op=.box T x)
 (h:(ZP E nid o.op o.type (Zz F)).run H []=Ua ((v,patch),rd)):Zv B (Zu H patch) w g nid v ((execOp a.eval o).run P w):=by
 rw[c]at h;simp[ZP,ZD,ZN,Zb,Vb]at h;obtain⟨t,i,b,⟨rfl,rfl⟩,_⟩:=h;have f:=(hF.eval x).to1 (ZcH b).2;refine Zon d e (T:=T) b f.1 ?_;simp only[execOp,c,run_newObj];rfl
theorem ZqQ{t xs id J}(h:ORel w g J id (.vec t xs)){i x}(m:xs[i]? =Ua x):
 ∃b cap cs e css c,g.ty id=t/\g.blk id=Ua b/\J b/\g.slv id=.slice (Ua ⟨b,0,Ub⟩) xs.length cap/\w.heap[b]? =Ua (.cells cs e (0,0))/\xs.length<=cap/\cap*t.size<=cs.size/\
  Fa (Rd w g.I t) xs css/\css[i]? =Ua c/\Rd w g.I t x c/\∃r,cs.toList=(css.take i).flatten++c++((css.drop (i+1)).flatten++r)/\(css.take i).flatten.length=i*t.size/\
   ∀d,(css.set i d).flatten++r=(css.take i).flatten++d++((css.drop (i+1)).flatten++r):=by
 have⟨k,h⟩:=h;obtain⟨rfl,_⟩|⟨b,cap,cs,e,css,p,q,s,u,y,z,f,r,A⟩:=h;.grind
 have⟨c,j,n⟩:=f.get i x m;have⟨C,D,K⟩:=ZaP j t.size (Rd.all_length f);grind
theorem _root_.Tr.ORel.fndVar{w g J id tn tq lt lb x}(h:ORel w g J id (.fnd tn tq lt lb x)):ORel w g J id (.var (g.ty id) (Zf5 tn tq lt x)):=by
 have⟨f,b,z,A,O,L,M,N,_,_,_,_,cells,e,u,y,c3,s,n,i,C,p,q,r,c,j,k,m⟩:=h;have d:(g.ty id).size=tn.size+(tq.size+(lt.size+3))/\(Zf5 tn tq lt x).fits (g.ty id)=true:=by
  obtain f|f:=f;all_goals rw[f];exact⟨by simp[Jn,Yx,Ty.size],by simp[Zf5,Jn,Yx,AV.fits,ZF.fits,Ty.size]⟩
 refine⟨rfl,d.2,b,cells,e,z,A,C,?_,?_⟩;.have:=congrArg List.length p;simp[Rd.length _ _ _ q,Rd.length _ _ _ r,Rd.length _ _ _ c]at this;rw[this,d.1]
 rw[p];have D:s.oneCell' =true:=by
  obtain⟨Q,_,h|⟨b,cap,cs,e,_,_,h,_⟩⟩:=j;.rw[h.2];rfl
  rw[h];rfl
 have I:n.oneCell' =true:=by
  obtain h|⟨b,off,cap,cs,e,_,h,_⟩:=k;.rw[h.2];rfl
  rw[h];rfl
 have K:i.oneCell' =true:=by
  obtain h|⟨b,cap,cs,e,_,h,_⟩:=m;.rw[h.2];rfl
  rw[h];rfl
 exact⟨u,_,rfl,q,y,_,rfl,r,c3,_,rfl,c,[s],[n,i],rfl,⟨rfl,by simpa using D⟩,[n],[i],rfl,⟨rfl,by simpa using I⟩,[i],[],rfl,⟨rfl,by simpa using K⟩,rfl⟩
theorem Zly{T x}(hT:Z0 P E)(hR:RH B H w g ow)(hF:Fr w g F a.tmps)(ho:o.op=.load T x)
 (h:(ZP E nid o.op o.type (Zz F)).run H []=Ua ((v,patch),rd)):Zv B (Zu H patch) w g nid v ((execOp a.eval o).run P w):=by
 rw[ho]at h;simp[ZP,ZD]at h;have⟨t,ht,h⟩:=h;have hx:=hF.eval x;have fin:∀{b off}{c},a.eval x=.pointer (Ua ⟨b,off,Ub⟩)->HA w b off c->CV w g v c->v.fits t=Uc->v.solid=Uc->patch=[]->Zv B (Zu H patch) w g nid v ((execOp a.eval o).run P w):=by intro b off c he hc a2 U hs hp;subst hp;have⟨q,h2⟩:=Zdt a2 U (Zf0 U hs);refine Zv.pure hR ?_ (VR.of1 q);simp[execOp,ho,he,Instr.loadAt,Vt,Vn,Vs,Vl,Zkl (hT.ty T t ht) hc (CV.length v t c U a2) h2]
 split at h;.rename_i t' y M;simp[ZN,Zr,Zb,ZW,Z7,Kp,Vb]at h;obtain⟨rfl,⟨rfl,rfl⟩,_⟩:=h;have⟨b,off,c,q,h2,n,J⟩:=(M▸hx).dp;exact fin q n.at (by assumption) (by simp[AV.fits]) rfl rfl
 .rename_i id p M;rw[ZZ]at h;split at h
  .rename_i t0 c S;simp[ZY,ZN,Zr,Zb,ZW,Z7,Vb,Vc]at h;obtain⟨v',m,q,⟨h2,R⟩,⟨rfl,rfl⟩,_⟩:=h;have⟨hk,o',t1,b,n,J,L⟩:=(M▸hx).ptr;have⟨_,d,U,b',cs,e,K,h7,h8,h9,Q⟩:=hR.objs id _ S;have⟨_,t2,O,⟨o2,pre,post,f,z,A⟩,a5,C⟩:=Zf9 q U Q;rw[d,f]at n;obtain⟨rfl,rfl⟩:=Ve (Kx n);rw[J]at K;cases K;refine fin L ?_ C h2 R rfl;rw[<-A];exact HA.of_heap h8 z
  .rename_i tn tq lt lb c S;simp[ZY,ZN,Zr,Zb,ZW,Z7,Vb,Vc]at h;obtain⟨v',m,q,⟨h2,R⟩,⟨rfl,rfl⟩,_⟩:=h;have⟨hk,o',t1,b,n,J,L⟩:=(M▸hx).ptr;have⟨d,U,b',cs,e,K,h7,h8,h9,Q⟩:=ORel.fndVar (hR.objs id _ S).2;have⟨_,t2,O,⟨o2,pre,post,f,z,A⟩,a5,C⟩:=Zf9 q U Q;rw[f]at n;obtain⟨rfl,rfl⟩:=Ve (Kx n);rw[J]at K;cases K;refine fin L ?_ C h2 R rfl;rw[<-A];exact HA.of_heap h8 z
  simp[Zb]at h
 .rename_i id i p M;rw[ZZ]at h;split at h
  .rename_i t0 xs S;simp[ZD,ZY,ZN,Zr,Zb,ZW,Z7,Kp,Vb]at h;obtain⟨x',I,y,m,q,rfl,⟨rfl,rfl⟩,_⟩:=h;have⟨hk,o',t1,b,n,J,L⟩:=(M▸hx).vp;have⟨_,hO⟩:=hR.objs id _ S;have⟨b',cap,cs,e,s,c,d,hb,hJ,a9,hh,hl,N,a7,a6,W,r,a1,a3,_⟩:=ZqQ hO I;have⟨_,O,⟨o2,pre,post,f,z,A⟩,C⟩:=Zgb p t0 x' _ _ y c q W;rw[d,f]at n;obtain⟨rfl,rfl⟩:=Ve (Kx n);rw[J]at hb;cases hb;refine fin L (c:=O) ?_ (by assumption) (by simp[AV.fits]) rfl rfl;have:cs.toList=((s.take i).flatten++pre)++O++(post++((s.drop (i+1)).flatten++r)):=by grind
   have:=HA.of_heap hh this;grind
  .rename_i t0 xs u S;simp only[ZD,ZN,Zr,Zb,ZW,Z7,Kp,Vb,Vc,Vpa]at h;obtain⟨⟨rfl,rfl⟩,x',I,⟨rfl,rfl⟩,_⟩:=h;have⟨hk,o',t1,b,n,J,L⟩:=(M▸hx).vp;rw[WW]at n;obtain⟨rfl,rfl⟩:=Ve (Kx n);have⟨_,d,D,a8,hO⟩:=hR.objs id _ S;obtain⟨rfl,_⟩|⟨b',cap,cs,e,hb,hJ,a9,hh,hl,N,a1⟩:=hO
   .grind
   rw[J]at hb;cases hb;have q:=a8.rd i x' I (by simp);refine fin L (c:=[g.row id (.int .i64) (i:Int)]) ?_ ?_ rfl rfl rfl
   .rw[d];intro j v hj
    cases j with
    |zero=>
     simp[List.getElem?_cons_zero,Z4]at hj;subst hj;simp[Ty.size,Nat.mul_one,Nat.add_zero,Vu,hh]
     grind|succ j=>grind
   simp only[CV];exact⟨hk,Nat.le_of_eq D.symm,_,rfl,q.one.1,λ_=>rfl⟩
  simp[Zb]at h
 .rename_i id ver kt k i p M;simp only[ZD,ZY,ZN,Zr,Zb,ZW,Z7,Kp,Vb]at h;obtain⟨r,m1,a0,x',I,y,m,q,rfl,⟨rfl,rfl⟩,_⟩:=h;have⟨hk,hv,ad,n,J⟩:=(M▸hx).np;have⟨b1,d,D,a4⟩:=Zfa hR hk a0;have⟨b,len,cap,o',t1,L,K,h7⟩:=J D;have⟨b',b0,cs,e,s,c,hd,hJ,hh,hl,N,a7,a6,W,r',a1,a3,_⟩:=ZpT a4 I;rw[L]at hd;obtain⟨rfl,_,_⟩:=hd;have⟨_,O,⟨o2,pre,post,f,z,A⟩,C⟩:=Zgb p r.1 x' _ _ y c q W;rw[d]at K h7;simp only[RZ]at K h7;rw[f]at K;obtain⟨rfl,rfl⟩:=Ve (Kx K);subst h7;refine fin n (c:=O) ?_ (by assumption) (by simp[AV.fits]) rfl rfl;have:cs.toList=((s.take i).flatten++pre)++O++(post++((s.drop (i+1)).flatten++r')):=by grind
  have:=HA.of_heap hh this;grind
 simp[Zb]at h
theorem ZeC{T t}(k:Jq P E.ty T t){b cs e pre c post d val}(n:w.heap[b]? =Ua (.cells cs e (0,0)))
 (f:cs.toList=pre++c++post) (m:val.cells.toList=d) (q:c.length=d.length) (p:d.length=t.size) (j:∀v∈d,v.oneCell' =Uc):
 (storeVar T ⟨b,pre.length,Ub⟩ val).run P w=.ok () (w.setRow b (pre++d++post).toArray):=by
 have h:val.cells.size=t.size:=by grind
 have i:cs.size=pre.length+c.length+post.length:=by rw[<-Vr,f];grind
 simp[storeVar,k.run_sizeOf,m];rw[run_storeCells_at P b pre.length e d 0 cs w n (by omega) j];grind
theorem Za8{b cs cs' e}(c:w.heap[b]? =Ua (.cells cs e (0,0))):(w.setRow b cs').heap[b]? =Ua (.cells cs' e (0,0)):=setRow_heap w b cs cs' e (0,0) c
theorem Zv.write{id b h cs' r}(d:RH B H w g ow)(c:H id≠Ub)(e:ow id b)(j:r=.ok .skip (w.setRow b cs'))
 (i:ORel (w.setRow b cs') g (ow id) id h):Zv B (ZX H id (Ua h)) w g nid .junk r:=by
 have m:=d.sep id b c e;refine⟨undef,w.setRow b cs',g,ow,by grind,d.write c e (λk f=>setRow_other w b k cs' f) (by simp) rfl rfl ⟨rfl,Vj _⟩ i,.refl g,?_,Gi,by grind⟩;intro k f;exact setRow_other w b k cs' (by grind)
theorem Zfc{id b cs'}(d:RH B H w g ow)(c:H id≠Ub)(f:ow id b):Kt g.I w (w.setRow b cs'):=λk h=>
 setRow_other w b k cs' (λe=>(d.sep id b c f).1 (e▸h))
theorem Zzj{t0 xs u s id i y val ys ids l l' x' r}(C:RH B H w g ow)(hH:H id=Ua (.rows t0 xs u s))
 (W:ZaS s i=Uc) (hu:u<nid) (b5:xs[i]? =Ua x') (N:VR w g y val) (A:(J1 t0 y).run H l=Ua ((ys,ids),l'))
 (hr:∀b cap cs e,g.blk id=Ua b->g.slv id=.slice (Ua ⟨b,0,Ub⟩) xs.length cap->w.heap[b]? =Ua (.cells cs e (0,0))->i<cs.size->r=.ok .skip (w.setRow b (cs.toList.set i val).toArray)):
 Zv B (Zu H (ids.map (λid=>(id,Ub))++[(id,Ua (.rows t0 (xs.set i ys) nid Ub))])) w g nid .junk r:=by
 have K:=ZgF C N A;have⟨hK,a9,b1,R,hO⟩:=C.objs id _ hH;have z:∀k,Zu H (ids.map λid=>(id,Ub)) k≠Ub->k ∉ ids/\H k≠none:=by intro k L;rw[RY]at L;grind
 have a0:id ∉ ids:=λhm=>by
  obtain⟨rfl,_⟩|⟨b6,rfl,_,_⟩:=Zet C N A;.grind
  simp only[List.mem_singleton]at hm;subst hm;unfold J1 at A;split at A
  .rename_i k;rw[ZZ]at A;split at A
   .rename_i a3;simp only[ZD,Zr,Vb,Hf,and_true]at A;grind
   simp[Zb]at A
  .rename_i k n;rw[ZZ]at A;split at A
   .rename_i a3;simp only[ZD,Zr,Vb,Hf,and_true]at A;grind
   simp[Zb]at A
  .simp only[Zr,Vb]at A;grind
  simp[Zb]at A
 obtain⟨rfl,_⟩|⟨b,cap,cs,e,hb,hJ,a8,hh,hl,b0,b2⟩:=hO;.grind
 have b3:i<xs.length:=by grind
 have D:H id≠none:=by grind
 have hr:=hr b cap cs e hb a8 hh (by omega);have b4:=C.sep id b D hJ;have a1:RH B (Zu H (ids.map λid=>(id,Ub))) w g ow:=C.drops ids;rw[XB];have m:∀k,k≠b->(w.setRow b (cs.toList.set i val).toArray).heap[k]? =w.heap[k]? :=λk L=>setRow_other w b k _ L;have Q:Kt g.I w (w.setRow b (cs.toList.set i val).toArray):=λk L=>by grind
 have a6:∀d,WQ val=Ua d->ZO H ow ids d:=λd c=>K.own c;have a4:∀d,ZO H ow ids d->d≠b/\ ¬ow id d:=λd ⟨k,S,O,h3⟩=>by have M:¬ow id d:=λU=>a0 (C.dist id k d D O U h3▸S);grind
 let f:(kt:Ty)->El kt->Y:=λkt k=>if h:kt=.int .i64 then(if (h▸k:El (.int .i64))=(i:Int) then val else g.row id kt k) else g.row id kt k
 have a7:∀j:Nat,j≠i->f (.int .i64) (j:Int)=g.row id (.int .i64) (j:Int):=by grind
 have J:f (.int .i64) (i:Int)=val:=by grind
 refine⟨undef,w.setRow b (cs.toList.set i val).toArray,g.bump id nid f,Xv ow id λd=>ow id d\/ZO H ow ids d,by grind,?_,Gh.le_bump (by omega),Q,Gi,λ_ h=>.inl h⟩;refine a1.bump (id:=id) (v:=nid) hK (by omega) (λd c=>?_) (by simp) rfl rfl ⟨rfl,Vj _⟩ (λd S O=>m d λe=>?_) (λd c=>?_) ?_
 .obtain c|⟨k,L,S,O⟩:=c
  .grind
  refine m d λe=>L ?_;subst e;exact(C.dist id k d D (z k S).2 hJ O).symm
 .grind
 .rw[size_setRow];obtain c|⟨k,S,O,h3⟩:=c
  .have⟨p,q,r⟩:=C.sep id d D c;exact⟨p,q,r,λk L U h5=>L (C.dist k id d (z k U).2 D h5 c)⟩
  have⟨p,q,r⟩:=C.sep k d O h3;refine⟨p,q,r,λk' L U h5=>(z k' U).1 ?_⟩;have:=C.dist k' k d (by grind) O h5 h3;grind
 refine⟨a9,Zn rfl,?_,.inr ⟨b,cap,(cs.toList.set i val).toArray,e,hb,.inl hJ,by show g.slv id=_;grind,setRow_heap w b cs _ e (0,0) hh,by grind,by grind,λj hj=>?_⟩⟩
 .show RF _ g.I _ t0 (g.blk id) (λj:Nat=>(if id=id then f else g.row id) (.int .i64) (j:Int)) _ Ub;rw[Zn rfl];refine R.put (k0:=i) (x0:=ys) (by omega) (λj x hx=>?_) ?_ ?_ (λj x hx hj hr=>?_) λd c=>?_
  .grind
  .cases s with|none=>simp|some j=>exact .inr (by rw[Vk W])
  .rw[J];exact K.mono Q (by simp) (by grind) (by grind)
  .refine hr.mono Q (by simp) (by grind) λd c h=>m d λe=>?_;have M:s≠Ua j:=λe=>by rw[e]at W;exact hj (Vk W)
   exact R.tp j x d hx M c (e▸hb)
  have c:WQ (f (.int .i64) (i:Int))=Ua d:=c;rw[J]at c;have a5:=a4 d (a6 d c);refine⟨λj x hx hj a2=>a5.2 ?_,by grind⟩;have M:s≠Ua j:=λe=>by rw[e]at W;exact hj (Vk W)
  exact(R.rd j x hx M).own a2
 show _=Ua ((if id=id then f else g.row id) (.int .i64) (j:Int));rw[Zn rfl];simp only[List.getElem?_toArray,List.getElem?_set];grind
theorem ZyP{w' id ver M k r row o' l l' l2 b5 b i}(hR:RH B H w g ow)(c:(YK id ver M k).run H l=Ua (r,l'))
 (f:(ZhY id M k r.1 row).run H l2=Ua (o',b5)) (W:WQ (g.row id M k)=Ua b) (b9:i<r.2.length) (K:WF w' g.I (ow id) r.1 row (g.row id M k)) (n:∀k,k≠b->w'.heap[k]? =w.heap[k]?):ORel w' g (ow id) id o' :=by
 have R:H id≠none:=by
  simp[YK]at c;rw[ZZ]at c;split at c;.grind
  .grind
  simp[Zb]at c
 have b3:ow id b:=K.own W;have N:Kt g.I w w' :=λk hk=>n k λe=>(hR.sep id b R b3).1 (e▸hk);simp[YK]at c;rw[ZZ]at c;simp[ZhY]at f;rw[ZZ]at f;split at c
 .rename_i t xs u hH;rw[hH]at f;simp[ZN,ZD,Zr,Zb,ZW,Z7]at c f;obtain⟨hu,i',a5,x,p,rfl,_⟩:=c;obtain⟨U,a6,y,hy,rfl,_⟩:=f;obtain⟨rfl,rfl⟩:=KS a5;have:=Zft a6;subst this;obtain⟨_,rfl⟩:=Zcv hy;have⟨_,S,A,h,hO⟩:=hR.objs id _ hH;unfold idx at p;split at p
  .rename_i h0;have D:=p;have e1:((U.toNat:Nat))=U:=Int.toNat_of_nonneg h0;refine⟨S,A,h.put (k0:=U.toNat) (x0:=y) (by simp) (λj x p=>?_) (.inl rfl) (by grind) (λj x p Q hr=>?_) λJ q=>?_,?_⟩
   .grind
   .refine hr.mono N (by simp) (by simp) λJ q _=>n J λe=>?_;subst e;exact h.ds j U.toNat x _ J p D Q (by simp) (by simp) q (by grind)
   .simp[e1]at q;rw[W]at q;cases q;exact⟨λj x p Q O=>h.ds j U.toNat x _ b p D Q (by simp) (by simp) O (by grind),h.tp U.toNat _ b D (by simp) (by grind)⟩
   obtain⟨rfl,_⟩|⟨J,cap,cs,e,h1,h2,h3,h4,h5,h6,h7⟩:=hO;.grind
   refine .inr ⟨J,cap,cs,e,h1,h2,by grind,(n J λe=>?_).trans h4,by grind,h6,by grind⟩;exact h.tp U.toNat _ b D (by simp) (by grind) (e▸h1)
  grind
 .rename_i c1 t m u hH;rw[hH]at f;simp[ZN,ZD,Zr,Zb,ZW,Z7,Vc]at c f;obtain⟨⟨hu,b1⟩,k',a8,rfl,_⟩:=c;obtain⟨L,a9,y,hy,rfl,_⟩:=f;obtain⟨rfl,rfl⟩:=KS a8;have:=Zft a9;subst this;obtain⟨_,rfl⟩:=Zcv hy;have⟨_,S,A,h,a2,b6,J,es,clock,h1,h2,h3,h4⟩:=hR.objs id _ hH;have s:=ZbM b1
  cases hg:ZT (Zs M) L m with
  |none=>grind|some x0=>
   have z:=Zff s hg;have a7:L∈m.map Vf:=by grind
   have b0:=(ZaD s (v:=y)).1 a7;have b4:=h.tp L x0 b z (by simp) W;refine⟨S,A,h.put (k0:=L) (x0:=y) (by simp) (λj x p=>Zgr s a2 p) (.inl rfl) K (λj x p Q hr=>?_) λb2 C=>?_,Zh8 s a2,by grind,J,es,clock,h1,h2,by grind,h4.1,?_⟩;.refine hr.mono N (by simp) (by simp) λb2 C _=>n b2 λe=>?_;subst e;exact h.ds j L x _ b2 p z Q (by simp) (by simp) C W
   .rw[W]at C;cases C;exact⟨λj x p Q O=>h.ds j L x _ b p z Q (by simp) (by simp) O W,b4⟩
   rw[Zck];have a0:=h4.2.mono λkv e p=>(⟨p.1.mono N (.refl g),p.2⟩:Kw w' g (.d M kv.1) e.key/\e.val=g.row id M kv.1)
   cases a1:JR (Zs M) L m with
   |none=>
    rw[Zci,a1]at hg;grind|some j=>
    simp;have⟨e1,a3,a4⟩:=Zcj _ _ _ _ a1;have⟨en,b8,hp⟩:=a0.get j e1 a3;have b7:=(XO s).1 a4;have:=a0.set j (a:=(L,y)) (b:=en) (by grind);have e5:es.toList.set j en=es.toList:=by apply List.ext_getElem?;grind
    grind
 simp[Zb]at c
theorem Zsw{T x y}(hT:Z0 P E)(C:RH B H w g ow)(hF:Fr w g F a.tmps)(ho:o.op=.store T x y)
 (h:(ZP E nid o.op o.type (Zz F)).run H []=Ua ((v,patch),rd)):Zv B (Zu H patch) w g nid v ((execOp a.eval o).run P w):=by
 rw[ho]at h;simp only[ZP,ZD,ZN,Zb,ZW,Z7]at h;have⟨t,ht,hf,h⟩:=h;have hx:=hF.eval x;have hy:=(hF.eval y).to1 (ZcH hf).2;have R:=CV.oneCell _ _ (ZcH hf).1 hy.1 t hf;have Q:=CV.length _ t _ hf hy.1;split at h
 .rename_i id p D;rw[ZZ]at h;split at h
  .rename_i t0 c hH;simp only[ZY,Zr,Vb]at h;obtain⟨c',m,h1,⟨rfl,rfl⟩,_⟩:=h;have⟨hk,o',t1,b,S,U,h5⟩:=(D▸hx).ptr;have⟨_,q,b9,b',cs,e,h6,h7,h8,h9,b5⟩:=C.objs id _ hH;have⟨_,o2,pre,c1,post,t2,⟨J,A,K,L⟩,M,b6⟩:=Zp6 h1 b9 b5 hy.1 (by omega);rw[q,J]at S;obtain⟨rfl,rfl⟩:=Ve (Kx S);rw[U]at h6;cases h6;subst K;have j:=Zfc (cs' :=(pre++(a.eval y).cells.toList++post).toArray) C (by grind) h7;refine Zv.write C (by grind) h7 (cs' :=(pre++(a.eval y).cells.toList++post).toArray) ?_ ?_
   .simp only[execOp,ho,h5,Vfa,Vt,Vn,Vs,Vl,ZeC (hT.ty T t ht) h8 A rfl L Q R]
   refine⟨q,M,b,_,e,U,h7,Za8 h8,?_,?_⟩
   .have:cs.size=pre.length+c1.length+post.length:=by rw[<-Vr,A];grind
    grind
   simpa using CV.mono j (.refl g) _ _ b6
  simp[Zb]at h
 .rename_i id i p D;rw[ZZ]at h;split at h
  .rename_i t0 xs hH;simp only[ZD,ZY,Zr,Vb]at h;obtain⟨e0,a0,dv,N,e',m,h1,⟨rfl,rfl⟩,_⟩:=h;have a4:Zz F y=.d dv.1 dv.2:=by
    cases O:Zz F y<;>rw[O]at N<;>simp[AV.dv?]at N;grind
   rw[a4]at hy hf;have⟨hk,o',t1,b,S,U,h5⟩:=(D▸hx).vp;have⟨_,hO⟩:=C.objs id _ hH;have⟨b',cap,cs,e,f,c,q,hb,hJ,c5,O,hl,b0,a5,b7,a8,r,b8,a7,a3⟩:=ZqQ hO a0;obtain⟨_,o2,pre,c1,post,J,A,K,L,M⟩:=Zg2 p t0 e0 _ _ dv e' c _ h1 a8 (by simpa only[CV] using hy.1);rw[q,J]at S;obtain⟨rfl,rfl⟩:=Ve (Kx S);rw[U]at hb;cases hb;subst K;have n:cs.toList=((f.take i).flatten++pre)++c1++(post++((f.drop (i+1)).flatten++r)):=by grind
   have j:=Zfc (cs' :=(((f.take i).flatten++pre)++(a.eval y).cells.toList++(post++((f.drop (i+1)).flatten++r))).toArray) C (by grind) hJ;refine Zv.write C (by grind) hJ (cs' :=(((f.take i).flatten++pre)++(a.eval y).cells.toList++(post++((f.drop (i+1)).flatten++r))).toArray) ?_ ?_
   .have s:i* (g.ty id).size+pre.length=((f.take i).flatten++pre).length:=by grind
    simp only[execOp,ho,h5,Vfa,Vt,Vn,Vs,Vl,s,ZeC (hT.ty T t ht) O n rfl L Q R]
   have a6:(f.set i (pre++(a.eval y).cells.toList++post)).flatten++r=((f.take i).flatten++pre)++(a.eval y).cells.toList++(post++((f.drop (i+1)).flatten++r)):=by grind
   refine⟨q,.inr ⟨b,cap,_,e,f.set i (pre++(a.eval y).cells.toList++post),U,hJ,by grind,Za8 O,by grind,?_,?_,r,?_⟩⟩
   .have:cs.size=((f.take i).flatten++pre).length+c1.length+(post++((f.drop (i+1)).flatten++r)).length:=by rw[<-Vr,n];grind
    grind
   .exact(a5.set i M).mono λx c hx=>Rd.mono j (by simp) t0 x c hx
   omega
  .rename_i t0 xs u c8 hH;simp only[ZD,ZN,ZY,Zr,Zb,ZW,Z7,Kp,Vb,Vc,Vpa]at h;obtain⟨⟨⟨rfl,rfl⟩,c2⟩,uu,z,x',c6,⟨ys,ids⟩,m,a2,⟨rfl,rfl⟩,_⟩:=h;have z:=Gu z;obtain⟨hk,o',t1,b,S,U,h5⟩:=(D▸hx).vp;rw[WW]at S;obtain⟨rfl,rfl⟩:=Ve (Kx S);refine Zzj C hH z (Via c2) c6 (hF.eval y) a2 λb' cap cs e hb c5 O hi=>?_;rw[U]at hb;cases hb;obtain⟨_,q,_⟩:=C.objs id _ hH;have j:Kb (a.eval y)=false:=(ZgF C (hF.eval y) a2).one.2;have W:(a.eval y).cells.toList=[a.eval y]:=by
    cases hv:a.eval y<;>rw[hv]at j<;>simp[Kb]at j<;>rfl
   have hl:i<cs.toList.length:=by omega
   have A:cs.toList=cs.toList.take i++[cs.toList[i]]++cs.toList.drop (i+1):=by rw[Vma,List.singleton_append,<-Vda hl,Vv]
   have c9:(cs.toList.take i).length=i:=by grind
   have a9:i* (g.ty id).size+0=(cs.toList.take i).length:=by grind
   have:=ZeC (hT.ty T _ ht) O A (d:=[a.eval y]) W rfl rfl (by grind);simp only[execOp,ho,h5,Vfa,Vt,Vn,Vs,Vl,a9,this];grind
  simp[Zb]at h
 .rename_i id ver kt k i p D;simp only[ZD,ZY,Zr,Vb]at h;obtain⟨r,m1,a1,e0,a0,dv,N,e',m2,h1,o',m3,a3,⟨rfl,rfl⟩,_⟩:=h;have a4:Zz F y=.d dv.1 dv.2:=by
   cases O:Zz F y<;>rw[O]at N<;>simp[AV.dv?]at N;grind
  rw[a4]at hy hf;obtain⟨hk,hv,ad,S,U⟩:=(D▸hx).np;obtain⟨b1,q,b4,b3⟩:=Zfa C hk a1;obtain⟨b,len,cap,o2,t1,h5,h6,h7⟩:=U b4;obtain⟨b',c7,cs,e,f,c,hd,hJ,O,hl,b0,a5,b7,a8,r',b8,a7,c4⟩:=ZpT b3 a0;rw[h5]at hd;simp only[Value.slice.injEq,Z4,Addr.mk.injEq,and_true]at hd;obtain⟨rfl,rfl,rfl⟩:=hd;obtain⟨_,o3,pre,c1,post,J,A,K,L,M⟩:=Zg2 p r.1 e0 _ _ dv e' c _ h1 a8 (by simpa only[CV] using hy.1);rw[q]at h6 h7;simp only[RZ]at h6 h7;rw[J]at h6;obtain⟨rfl,rfl⟩:=Ve (Kx h6);subst K;subst h7;have n:cs.toList=((f.take i).flatten++pre)++c1++(post++((f.drop (i+1)).flatten++r')):=by grind
  have j:=Zfc (cs' :=(((f.take i).flatten++pre)++(a.eval y).cells.toList++(post++((f.drop (i+1)).flatten++r'))).toArray) C b1 hJ;have a6:(f.set i (pre++(a.eval y).cells.toList++post)).flatten++r' =((f.take i).flatten++pre)++(a.eval y).cells.toList++(post++((f.drop (i+1)).flatten++r')):=by grind
  have b2:WF (w.setRow b (((f.take i).flatten++pre)++(a.eval y).cells.toList++(post++((f.drop (i+1)).flatten++r'))).toArray) g.I (ow id) r.1 (r.2.set i e') (g.row id kt k):=by
   refine .inr ⟨b,cap,_,e,f.set i (pre++(a.eval y).cells.toList++post),by grind,hJ,Za8 O,by grind,?_,?_,r',?_⟩
   .have:cs.size=((f.take i).flatten++pre).length+c1.length+(post++((f.drop (i+1)).flatten++r')).length:=by rw[<-Vr,n];grind
    grind
   .exact(a5.mono λx c hx=>Rd.mono j (by simp) _ x c hx).set i (Rd.mono j (by simp) _ _ _ M)
   omega
  refine Zv.write C b1 hJ (cs' :=(((f.take i).flatten++pre)++(a.eval y).cells.toList++(post++((f.drop (i+1)).flatten++r'))).toArray) ?_ ?_
  .have s:i*r.1.size+pre.length=((f.take i).flatten++pre).length:=by grind
   simp only[execOp,ho,S,Vfa,Vt,Vn,Vs,Vl,s,ZeC (hT.ty T t ht) O n rfl L Q R]
  exact ZyP C a1 a3 (by rw[h5];rfl) (Vq.1 a0).1 b2 (λk hk=>setRow_other w b k _ hk)
 simp[Zb]at h
end ops
end Tr
end
end
