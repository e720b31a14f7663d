/- The definitions of the abstract machine: reads of the abstract heap as trees, paths into data, patterns, the operations. Conditions: none. -/
import Derived.Test.YtdpenljjnfmgiaaGreatTrB
namespace Tr
open Go
inductive Acc (α:Type):Type 1 where
 |ret (a:α)
 |fail
 |getH (id:Nat) (k:Option Zc0->Acc α)
 |opt {β:Type} (o:Option β) (k:β->Acc α)
 |bool (b:Bool) (k:Bool->Acc α)
def Acc.bind{α β:Type} :Acc α->(α->Acc β)->Acc β
 | .ret a,f=>f a
 | .fail,_=> .fail
 | .getH id k,f=> .getH id fun o=>(k o).bind f
 | .opt o k,f=> .opt o fun b=>(k b).bind f
 | .bool b k,f=> .bool b fun c=>(k c).bind f
def Acc.runK{α ρ:Type}(H:AH):Acc α->List Nat->(α->List Nat->Option ρ)->Option ρ
 | .ret a,l,k=>k a l
 | .fail,_,_=>none
 | .getH id f,l,k=>(f (H id)).runK H (id::l) k
 | .opt o f,l,k=>o.bind fun b=>(f b).runK H l k
 | .bool b f,l,k=>bif b then(f true).runK H l k else(f false).runK H l k
def Acc.run{α:Type}(H:AH):Acc α->List Nat->Option (α×List Nat)
 | .ret a,l=>some (a,l)
 | .fail,_=>none
 | .getH id f,l=>(f (H id)).run H (id::l)
 | .opt o f,l=>o.bind fun b=>(f b).run H l
 | .bool b f,l=>(f b).run H l
theorem Acc.runK_eq{α ρ:Type}(H:AH)(k:α->List Nat->Option ρ)(a:Acc α)(l:List Nat):a.runK H l k=(a.run H l).bind fun r=>k r.1 r.2:=by
 induction a generalizing l with
 |ret a=>rfl
 |fail=>rfl
 |getH id f ih=>exact ih _ _
 |opt o f ih=>
  cases o with
  |none=>rfl
  |some b=>exact ih _ _
 |bool b f ih=>cases b<;>exact ih _ _
theorem Acc.run_bind{α β:Type}(H:AH)(f:α->Acc β)(a:Acc α)(l:List Nat): (a.bind f).run H l=(a.run H l).bind fun r=>(f r.1).run H r.2:=by
 induction a generalizing l with
 |ret a=>rfl
 |fail=>rfl
 |getH id k ih=>exact ih _ _
 |opt o k ih=>
  cases o with
  |none=>rfl
  |some b=>exact ih _ _
 |bool b k ih=>exact ih _ _
theorem Acc.run_local{α:Type}{H H' :AH}(a:Acc α)(l:List Nat)(r:α)(l' :List Nat)(h:a.run H l=some (r,l')):
  ∃m,l' =m++l/\((∀id∈m,H' id=H id)->a.run H' l=some (r,l')):=by
 induction a generalizing l with
 |ret a=>
  simp only[Acc.run,Option.some.injEq,Prod.mk.injEq]at h
  exact⟨[],by simp [h.2],fun _=>by simp [Acc.run,h.1,h.2]⟩
 |fail=>simp [Acc.run]at h
 |getH id k ih=>
  simp only[Acc.run]at h;obtain⟨m,h1,h2⟩:=ih _ _ h;refine⟨m++[id],by simp [h1],fun hm=> ?_⟩;simp only[Acc.run];rw[hm id (by simp)]
  exact h2 fun i hi=>hm i (by simp [hi])
 |opt o k ih=>
  cases o with
  |none=>simp [Acc.run]at h
  |some b=>
   simp only[Acc.run,Option.bind_some]at h ⊢
   exact ih _ _ h
 |bool b k ih=>
  simp only[Acc.run]at h ⊢;exact ih _ _ h
def ZaE(t t' :Ty)(x:El t):Option (El t'):=if h:t=t' then some (h▸x) else none
def inb(i:Int)(n:Nat):Option Nat:=if 0<=i/\i<n then some i.toNat else none
def idx{α:Type}(xs:List α)(i:Int):Option α:=if 0<=i then xs[i.toNat]? else none
def Zas(b:Bool):Option Unit:=bif b then some () else none
abbrev DV:=(t:Ty) ×El t
def Zeh: (t:Ty)->El t->List Nat->Acc DV
 |t,x,[]=> .ret ⟨t,x⟩
 | .prod a b,x,i::p=>match i with
  |0=>Zeh a x.1 p
  |n+1=>Zeh b x.2 (n::p)
 | .arr _ t,x,i::p=> .opt x[i]? fun y=>Zeh t y p
 |_,_,_::_=> .fail
def Zc3: (t:Ty)->El t->List Nat->DV->Acc (El t)
 |t,_,[],y=> .opt (ZaE y.1 t y.2) .ret
 | .prod a b,x,i::p,y=>match i with
  |0=>(Zc3 a x.1 p y).bind fun z=> .ret (z,x.2)
  |n+1=>(Zc3 b x.2 (n::p) y).bind fun z=> .ret (x.1,z)
 | .arr _ t,x,i::p,y=> .opt x[i]? fun e=>(Zc3 t e p y).bind fun z=> .ret (x.set i z)
 |_,_,_::_,_=> .fail
def Zby: (t:Ty)->El t->AVs
 | .prod a b,x=> .cons (.d a x.1) (Zby b x.2)
 |_,_=> .nil
mutual
def ZgG:AV->List Nat->Acc AV
 |v,[]=> .ret v
 | .d t x,p=>(Zeh t x p).bind fun y=> .ret (.d y.1 y.2)
 | .agg l,n::p=>Zhj l n p
 |_,_::_=> .fail
def Zhj:AVs->Nat->List Nat->Acc AV
 | .cons v _,0,p=>ZgG v p
 | .cons _ l,n+1,p=>Zhj l n p
 | .nil,_,_=> .fail
end
def AV.dv? :AV->Option DV
 | .d t x=>some ⟨t,x⟩
 |_=>none
def ZcM:Ty->AVs->Nat->List Nat->AV->Acc AVs
 | .prod a _, .cons u l,0,p,v=>(match p,u with
  | [],_=>bif v.fits a then .ret (.cons v l) else .fail
  |p, .d t x=>(match v with
   | .d t' y=>(Zc3 t x p ⟨t',y⟩).bind fun z=> .ret (.cons (.d t z) l)
   |_=> .fail)
  |_,_=> .fail)
 | .prod _ b, .cons u l,n+1,p,v=>(ZcM b l n p v).bind fun m=> .ret (.cons u m)
 |_,_,_,_,_=> .fail
def Zlc(t:Ty)(c:AV)(p:List Nat)(v:AV):Acc AV:=
 match p with
 | []=>bif v.fits t then .ret v else .fail
 |n::q=>match c with
  | .agg l=>(ZcM t l n q v).bind fun m=> .ret (.agg m)
  | .d t0 x=>(match v with
   | .d t' y=>(Zc3 t0 x (n::q) ⟨t',y⟩).bind fun z=> .ret (.d t0 z)
   |v=>bif (Zby t0 x).fits t then(ZcM t (Zby t0 x) n q v).bind fun l=> .ret (.agg l) else .fail)
  |_=> .fail
end Tr
