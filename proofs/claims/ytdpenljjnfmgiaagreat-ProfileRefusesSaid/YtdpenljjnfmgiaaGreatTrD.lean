/- The definitions of the abstract machine, continued: patterns, extraction and injection, specs, the operations, regions, code. Conditions: none. -/
import Derived.Test.YtdpenljjnfmgiaaGreatTrC
open BitVec renaming ofInt ->Vb
open List renaming replicate ->Vc
open Nat renaming beq ->Va,blt ->Vd,ble ->Ve
namespace Tr
open Go
def Ty.dep:Ty->Nat
 | .prod a b=>max (a.dep+1) b.dep
 | .arr _ t=>t.dep+1
 | .sl t=>t.dep+1
 |_=>1
def ZbC: (t:Ty)->El t->El t->Option Bool
 | .int _,x,y=>some (decide (x=y))
 | .bool,x,y=>some (x==y)
 | .str,x,y=>some (decide (x=y))
 | .unit,_,_=>some true
 | .prod a .unit,x,y=>ZbC a x.1 y.1
 | .prod a b,x,y=>(ZbC a x.1 y.1).bind fun p=>(ZbC b x.2 y.2).bind fun q=>some (p&&q)
 | .arr _ t,x,y=>(eqs (ZbC t) x y)
 |_,_,_=>none
where eqs {α:Type} (f:α->α->Option Bool):List α->List α->Option Bool
 | [],[]=>some true
 |a::l,b::m=>(f a b).bind fun p=>(eqs f l m).bind fun q=>some (p&&q)
 |_,_=>none
def Zaw{α β:Type}(eq:α->α->Bool)(k:α):List (α×β)->Option β
 | []=>none
 |e::l=>bif eq k e.1 then some e.2 else Zaw eq k l
def ZaS{α β:Type}(eq:α->α->Bool)(k:α)(v:β):List (α×β)->List (α×β)
 | []=>[(k,v)]
 |e::l=>bif eq k e.1 then(k,v)::l else e::ZaS eq k v l
def Zai(t:Ty)(x y:El t):Bool:=(ZbC t x y).getD false
def Ty.key:Ty->Bool
 | .int _=>true
 | .bool=>true
 | .str=>true
 | .unit=>true
 | .prod a b=>a.key&&b.key
 | .arr _ t=>t.key
 |_=>false
def Ty.keyOk(t:Ty):Bool:=t.key&&Ve t.dep 100
mutual
inductive Pat where
 |pd (t:Ty)
 |own (t:Ty) (keep:Bool)
 |var (t:Ty) (p:Pat)
 |ro (t:Ty)
 |map (kt vt:Ty)
 |rows (t:Ty) (keep:Bool)
 |mrows (kt t:Ty)
 |it (kt vt:Ty)
 |bld (T e:TypeId) (keep:Bool)
 |agg (l:Za5)
 |fn (f:FuncId) (l:Za5)
 |nilr
 |nils
 |any
inductive Za5 where
 |nil
 |cons (p:Pat) (l:Za5)
end
mutual
@[reducible] def ElP:Pat->Type
 | .pd t=>El t
 | .own t _=>List (El t)
 | .var _ p=>ElP p
 | .ro t=>El t
 | .map kt vt=>List (El kt×El vt)
 | .rows t _=>List (List (El t))
 | .mrows kt t=>List (El kt×List (El t))
 | .it kt vt=>List (El kt×El vt)
 | .bld _ _ _=>List UInt8
 | .agg l=>ZcJ l
 | .fn _ l=>ZcJ l
 | .nilr=>Unit
 | .nils=>Unit
 | .any=>Unit
@[reducible] def ZcJ:Za5->Type
 | .nil=>Unit
 | .cons p l=>ElP p×ZcJ l
end
mutual
@[reducible] def ZlS:Pat->Type
 | .own t true=>List (El t)
 | .var _ p=>ElP p
 | .map kt vt=>List (El kt×El vt)
 | .rows t true=>List (List (El t))
 | .mrows kt t=>List (El kt×List (El t))
 | .bld _ _ true=>List UInt8
 | .agg l=>ZbQ l
 | .fn _ l=>ZbQ l
 |_=>Unit
@[reducible] def ZbQ:Za5->Type
 | .nil=>Unit
 | .cons p l=>ZlS p×ZbQ l
end
def Zcr(id ver:Nat)(kt:Ty)(k:El kt):Acc ((t:Ty) ×List (El t)):=
 .getH id fun
  |some (.rows t xs v none)=>bif Va v ver then .opt (ZaE kt (.int .i64) k) fun i=> .opt (idx xs i) fun x=> .ret ⟨t,x⟩ else .fail
  |some (.mrows kt' t m v none)=>bif Va v ver&&kt'.keyOk then .opt (ZaE kt kt' k) fun k' => .ret ⟨t,(Zaw (Zai kt') k' m).getD []⟩ else .fail
  |_=> .fail
mutual
def ZaJ: (t:Ty)->AV->Acc (El t×List Nat)
 |t, .d t' x=> .opt (ZaE t' t x) fun y=> .ret (y,[])
 | .sl _, .nils=> .ret ([],[])
 | .sl t, .vw id=> .getH id fun
  |some (.vec t' xs)=> .opt (ZaE (.sl t') (.sl t) xs) fun y=> .ret (y,[id])
  |some (.rows t' xs _ none)=> .opt (ZaE (.sl (.sl t')) (.sl t) xs) fun y=> .ret (y,[id])
  |some (.dat t' xs)=> .opt (ZaE (.sl t') (.sl t) xs) fun y=> .ret (y,[])
  |_=> .fail
 | .sl t, .nw id ver kt k=>(Zcr id ver kt k).bind fun r=> .opt (ZaE (.sl r.1) (.sl t) r.2) fun y=> .ret (y,[id])
 | .sl t, .vs id lo n=> .getH id fun
  |some (.vec t' xs)=> .opt (ZaE (.sl t') (.sl t) xs) fun y=> .ret ((y.drop lo).take n,[id])
  |_=> .fail
 |t, .agg l=>ZbI t l
 |_,_=> .fail
def ZbI: (t:Ty)->AVs->Acc (El t×List Nat)
 | .unit, .nil=> .ret ((),[])
 | .prod a b, .cons v l=>(ZaJ a v).bind fun x=>(ZbI b l).bind fun y=> .ret ((x.1,y.1),x.2++y.2)
 |_,_=> .fail
end
def ZhU(l:List Int):List UInt8:=l.map fun n=>UInt8.ofNat n.toNat
def ZhY(t:Ty)(x:AV):Acc (List (El t) ×List Nat):=
 match x with
 | .vw id=> .getH id fun
  |some (.rows _ _ _ _)=> .fail
  |_=>ZaJ (.sl t) (.vw id)
 |x=>ZaJ (.sl t) x
def Zbq(t:Ty)(v:AV):Acc (List (El t) ×List Nat):=
 match v with
 | .vw id=> .getH id fun
  |some (.vec t' xs)=> .opt (ZaE (.sl t') (.sl t) xs) fun y=> .ret (y,[id])
  |_=> .fail
 | .vs id 0 n=> .getH id fun
  |some (.vec t' xs)=> .opt (ZaE (.sl t') (.sl t) xs) fun y=> .ret (y.take n,[id])
  |_=> .fail
 | .nils=> .ret ([],[])
 |_=> .fail
def Zck(t:Ty)(v:AV):Acc (List (List (El t)) ×List Nat):=
 match v with
 | .vw id=> .getH id fun
  |some (.rows t' xs _ none)=> .opt (ZaE (.sl (.sl t')) (.sl (.sl t)) xs) fun y=> .ret (y,[id])
  |_=> .fail
 | .nils=> .ret ([],[])
 |_=> .fail
structure Ids where
 tk:List Nat
 br:List Nat
def Ids.none:Ids:=⟨[],[]⟩
def Ids.app(a b:Ids):Ids:=⟨a.tk++b.tk,a.br++b.br⟩
mutual
def Pat.fits:Pat->Ty->Bool
 | .pd t',t=>t' ==t
 | .own t' _, .sl t=>t' ==t
 | .rows t' _, .sl (.sl t)=>t' ==t
 | .mrows _ _, .ref=>true
 | .it _ _, .ref=>true
 | .bld _ _ _, .ref=>true
 | .var _ _, .ref=>true
 | .ro _, .ref=>true
 | .map _ _, .ref=>true
 | .fn _ _, .ref=>true
 | .nilr, .ref=>true
 | .nils, .sl _=>true
 | .agg l,t=>l.fits t
 |_,_=>false
def Za5.fits:Za5->Ty->Bool
 | .nil, .unit=>true
 | .cons p l, .prod a b=>p.fits a&&l.fits b
 |_,_=>false
end
mutual
def ext: (p:Pat)->AV->Acc (ElP p×Ids)
 | .pd t,v=>(ZaJ t v).bind fun r=> .ret (r.1,⟨[],r.2⟩)
 | .own t _,v=>(Zbq t v).bind fun r=> .ret (r.1,⟨r.2,[]⟩)
 | .var t p,v=>(match v with
  | .ptr id []=> .getH id fun
   |some (.var t' c)=>bif t' ==t&&p.fits t then(ext p c).bind fun r=> .ret (r.1,⟨id::r.2.tk,r.2.br⟩) else .fail
   |_=> .fail
  |_=> .fail)
 | .ro t,v=>(match v with
  | .ptr id []=> .getH id fun
   |some (.var _ (.d t' x))=> .opt (ZaE t' t x) fun y=> .ret (y,⟨[],[id]⟩)
   |_=> .fail
  | .dp t' x=> .opt (ZaE t' t x) fun y=> .ret (y,Ids.none)
  |_=> .fail)
 | .map kt vt,v=>(match v with
  | .mp id=> .getH id fun
   |some (.map k e m)=> .opt (ZaE (.sl (.prod k e)) (.sl (.prod kt vt)) m) fun y=> .ret (y,⟨[id],[]⟩)
   |_=> .fail
  |_=> .fail)
 | .rows t _,v=>(Zck t v).bind fun r=> .ret (r.1,⟨r.2,[]⟩)
 | .mrows kt t,v=>(match v with
  | .mp id=> .getH id fun
   |some (.mrows k t' m _ none)=> .opt (ZaE (.sl (.prod k (.sl t'))) (.sl (.prod kt (.sl t))) m) fun y=> .ret (y,⟨[id],[]⟩)
   |_=> .fail
  |_=> .fail)
 | .it kt vt,v=>(match v with
  | .ptr id []=> .getH id fun
   |some (.rng k e m _)=> .opt (ZaE (.sl (.prod k e)) (.sl (.prod kt vt)) m) fun y=> .ret (y,⟨[id],[]⟩)
   |_=> .fail
  |_=> .fail)
 | .bld T e _,v=>(match v with
  | .ptr id []=> .getH id fun
   |some (.bld T' e' bs)=>bif Va T' T&&Va e' e then .ret (bs,⟨[id],[]⟩) else .fail
   |_=> .fail
  |_=> .fail)
 | .agg l,v=>(match v with
  | .agg vs=>Zef l vs
  | .d t x=>bif (Zby t x).fits t then Zef l (Zby t x) else .fail
  |_=> .fail)
 | .fn f l,v=>(match v with
  | .fn f' caps=>bif Va f' f then Zef l caps else .fail
  |_=> .fail)
 | .nilr,v=>(match v with
  | .nilr=> .ret ((),Ids.none)
  |_=> .fail)
 | .nils,v=>(match v with
  | .nils=> .ret ((),Ids.none)
  |_=> .fail)
 | .any,_=> .ret ((),Ids.none)
def Zef: (l:Za5)->AVs->Acc (ZcJ l×Ids)
 | .nil, .nil=> .ret ((),Ids.none)
 | .cons p l, .cons v vs=>(ext p v).bind fun x=>(Zef l vs).bind fun y=> .ret ((x.1,y.1),x.2.app y.2)
 |_,_=> .fail
end
mutual
def inj: (p:Pat)->ElP p->Nat->AV×List (Nat×Zc0) ×Nat
 | .pd t,x,n=>(.d t x,[],n)
 | .own t _,x,n=>(.vw n,[(n, .vec t x)],n+1)
 | .var t p,x,n=>let r:=inj p x (n+1);(.ptr n [],(n, .var t r.1)::r.2.1,r.2.2)
 | .ro t,x,n=>(.dp t x,[],n)
 | .map kt vt,x,n=>(.mp n,[(n, .map kt vt x)],n+1)
 | .rows t _,x,n=>(.vw n,[(n, .rows t x 0 none)],n+1)
 | .mrows kt t,x,n=>(.mp n,[(n, .mrows kt t x 0 none)],n+1)
 | .it kt vt,x,n=>(.ptr n [],[(n, .rng kt vt x none)],n+1)
 | .bld T e _,x,n=>(.ptr n [],[(n, .bld T e x)],n+1)
 | .agg l,x,n=>let r:=Zcz l x n;(.agg r.1,r.2)
 | .fn f l,x,n=>let r:=Zcz l x n;(.fn f r.1,r.2)
 | .nilr,_,n=>(.nilr,[],n)
 | .nils,_,n=>(.nils,[],n)
 | .any,_,n=>(.junk,[],n)
def Zcz: (l:Za5)->ZcJ l->Nat->AVs×List (Nat×Zc0) ×Nat
 | .nil,_,n=>(.nil,[],n)
 | .cons p l,x,n=>let r:=inj p x.1 n;let s:=Zcz l x.2 r.2.2;(.cons r.1 s.1,r.2.1++s.2.1,s.2.2)
end
mutual
def ZaN: (p:Pat)->AV->ZlS p->Nat->List (Nat×Option Zc0) ×Nat
 | .own t true, .vw id,x,n=>([(id,some (.vec t x))],n)
 | .var t p, .ptr id [],x,n=>let r:=inj p x n;((id,some (.var t r.1))::r.2.1.map fun o=>(o.1,some o.2),r.2.2)
 | .map kt vt, .mp id,x,n=>([(id,some (.map kt vt x))],n)
 | .rows t true, .vw id,x,n=>([(id,some (.rows t x n none))],n)
 | .mrows kt t, .mp id,x,n=>([(id,some (.mrows kt t x n none))],n)
 | .bld T e true, .ptr id [],x,n=>([(id,some (.bld T e x))],n)
 | .agg l, .agg vs,x,n=>Zbw l vs x n
 | .fn _ l, .fn _ vs,x,n=>Zbw l vs x n
 |_,_,_,n=>([],n)
def Zbw: (l:Za5)->AVs->ZbQ l->Nat->List (Nat×Option Zc0) ×Nat
 | .nil,_,_,n=>([],n)
 | .cons p l, .cons v vs,x,n=>let r:=ZaN p v x.1 n;let s:=Zbw l vs x.2 r.2;(r.1++s.1,s.2)
 | .cons _ _, .nil,_,n=>([],n)
end
structure Spec where
 args:Za5
 res:Za5
 fns:List FuncId
 α:Type
 f:ZcJ args->Option α
 unp:α->ZbQ args×ZcJ res
 pl:Bool:=true
 kp:List (Nat×Nat×Nat):=[]
abbrev ZaY:=List (Nat×Option Zc0)
structure Env where
 ty:TypeId->Option Ty
 mty:TypeId->Option (Ty×Ty)
 rw:TypeId->Bool:=fun _=>false
 zx:TypeId->Bool:=fun _=>false
 bd:TypeId->Option TypeId:=fun _=>none
 pk:TypeId->Nat:=fun _=>0
 specs:FuncId->List Spec
 nt:Nat
 ks:List Nat
 pz:TypeId->Bool:=fun _=>false
 st:Nat:=0
 inl:FuncId->Option (Nat->AVs->Acc (AV×ZaY)):=fun _=>none
def Env.stp(E:Env):Nat:=E.st+64
def Zdb(n:Nat):List Nat->Bool
 | []=>false
 |k::l=>Va n k||Zdb n l
def Zdc:List Nat->Bool
 | []=>true
 |n::l=> !Zdb n l&&Zdc l
def ZcA:List Nat->List Nat->Bool
 | [],_=>true
 |n::l,m=> !Zdb n m&&ZcA l m
def Ids.ok(i:Ids)(fz:List Nat):Bool:=Zdc i.tk&&ZcA i.br i.tk&&ZcA i.tk fz
def Ty.flat:Ty->Bool
 | .sl _=>false
 | .ref=>false
 | .prod a b=>a.flat&&b.flat
 | .arr _ t=>t.flat
 |_=>true
mutual
def Pat.flat:Pat->Bool
 | .pd t=>t.flat
 | .own t _=>t.flat
 | .var _ p=>p.flat
 | .ro _=>false
 | .map kt vt=>kt.flat&&vt.flat
 | .rows t _=>t.flat
 | .mrows kt t=>kt.flat&&t.flat
 | .it kt vt=>kt.flat&&vt.flat
 | .bld _ _ _=>true
 | .agg l=>l.flat
 | .fn _ l=>l.flat
 | .nilr=>true
 | .nils=>true
 | .any=>true
def Za5.flat:Za5->Bool
 | .nil=>true
 | .cons p l=>p.flat&&l.flat
end
mutual
def Pat.oflat:Pat->Bool
 | .own t k=> !k||t.flat
 | .var _ p=>p.flat
 | .map kt vt=>kt.flat&&vt.flat
 | .rows t k=> !k||t.flat
 | .mrows kt t=>kt.flat&&t.flat
 | .agg l=>l.oflat
 | .fn _ l=>l.oflat
 |_=>true
def Za5.oflat:Za5->Bool
 | .nil=>true
 | .cons p l=>p.oflat&&l.oflat
end
mutual
def Pat.sz:Pat->Nat
 | .pd t=>t.size
 | .agg l=>l.sz
 |_=>1
def Za5.sz:Za5->Nat
 | .nil=>0
 | .cons p l=>p.sz+l.sz
end
mutual
def Pat.noAny:Pat->Bool
 | .any=>false
 | .var _ p=>p.noAny
 | .agg l=>l.noAny
 | .fn _ l=>l.noAny
 |_=>true
def Za5.noAny:Za5->Bool
 | .nil=>true
 | .cons p l=>p.noAny&&l.noAny
end
def Za5.wf:Za5->Bool
 | .nil=>true
 | .cons .any l=>l.wf
 | .cons p l=>p.noAny&&l.wf
def AVs.ofList:List AV->AVs
 | []=> .nil
 |v::l=> .cons v (AVs.ofList l)
def AVs.app:AVs->AVs->AVs
 | .nil,m=>m
 | .cons v l,m=> .cons v (l.app m)
def AVs.nth:AVs->Nat->Option AV
 | .nil,_=>none
 | .cons v _,0=>some v
 | .cons _ l,n+1=>l.nth n
def Zmi:AVs->List FuncId
 | .nil=>[]
 | .cons (.fn f _) l=>f::Zmi l
 | .cons _ l=>Zmi l
def ZnY:AVs->AV
 | .cons v .nil=>v
 |l=> .tup l
def ZaU:Nat:=64
def Zlv(n:Nat):List Nat->Acc Unit
 | []=> .ret ()
 |id::l=> .getH id fun
  |some (.rows _ _ v _)=>bif Vd v n then Zlv n l else .fail
  |some (.mrows _ _ _ v _)=>bif Vd v n then Zlv n l else .fail
  |_=>Zlv n l
def Zh0:List Nat->Acc ZaY
 | []=> .ret []
 |id::l=> .getH id fun
  |some (.vec t xs)=>(Zh0 l).bind fun p=> .ret ((id,some (.dat t xs))::p)
  |some (.rows t xs _ none)=>(Zh0 l).bind fun p=> .ret ((id,some (.dat (.sl t) xs))::p)
  |_=>Zh0 l
def Zh4(S:Spec)(nid:Nat)(avs:AVs):Acc (AV×ZaY):=
 (Zef S.args avs).bind fun r=>
  .opt (Zas (r.2.ok [])) fun _=>(Zlv nid r.2.tk).bind fun _=>(bif S.res.flat&&S.args.oflat then .ret [] else Zh0 r.2.br).bind fun ds=>
   .opt (S.f r.1) fun z=>
    let y:=S.unp z
    let p:=Zbw S.args avs y.1 nid
    let q:=Zcz S.res y.2 p.2
    .opt (Zas (Ve q.2.2 (nid+ZaU))) fun _=> .ret (ZnY q.1,(r.2.tk.map fun id=>(id,none))++(bif S.res.flat&&S.args.oflat then [] else r.2.br.map fun id=>(id,none))++p.1++(q.2.1.map fun o=>(o.1,some o.2))++ds)
def ZgO(id:Nat):ZaY->Option (Option Zc0)
 | []=>none
 |p::l=>match ZgO id l with
  |some o=>some o
  |none=>bif Va p.1 id then some p.2 else none
def AVs.putNth:AVs->Nat->AV->AVs
 | .nil,_,_=> .nil
 | .cons _ l,0,v=> .cons v l
 | .cons u l,n+1,v=> .cons u (l.putNth n v)
def ZoZ:Ty->Nat->Nat
 | .prod a b,n+1=>a.size+ZoZ b n
 |_,_=>0
def ZpR(avs:AVs)(k:Nat×Nat×Nat)(p:ZaY):Acc ZaY:=
 match avs.nth k.1 with
 |some (.ptr sid [])=> .getH sid fun
  |some (.var T (.agg c))=>(match c.nth k.2.1 with
   |some (.vw oid)=> .getH oid fun
    |some (.vec t _)=>(match ZgO sid p with
     |some (some (.var T' (.agg c')))=>(match c'.nth k.2.1 with
      |some (.vw nid)=>(match ZgO nid p with
       |some (some (.vec t' xs))=>bif t' ==t&&T' ==T&&Va (ZoZ T k.2.1) k.2.2&& !Va nid sid&& !Va oid sid then .ret (p++[(nid,none),(sid,none),(oid,some (.vec t' xs)),(sid,some (.var T' (.agg (c'.putNth k.2.1 (.vw oid)))))]) else .fail
       |_=> .fail)
      |_=> .fail)
     |_=> .fail)
    |_=> .fail
   |_=> .fail)
  |_=> .fail
 |_=> .fail
def Zge(avs:AVs):List (Nat×Nat×Nat)->ZaY->Acc ZaY
 | [],p=> .ret p
 |k::l,p=>(ZpR avs k p).bind fun q=>Zge avs l q
def ZfP(S:Spec)(nid:Nat)(avs:AVs):Acc (AV×ZaY):=
 (Zh4 S nid avs).bind fun r=>(Zge avs S.kp r.2).bind fun p=> .ret (r.1,p)
def ZdW(nid:Nat)(avs:AVs):List Spec->Acc (AV×ZaY)
 | []=> .fail
 | [S]=>ZfP S nid avs
 |S::l=>(Zef S.args avs).bind fun r=> .bool (S.f r.1).isSome fun b=>bif b then ZfP S nid avs else ZdW nid avs l
def ZbZ(fns:List FuncId):List Spec->List Spec
 | []=>[]
 |S::l=>bif S.fns==fns then S::ZbZ fns l else ZbZ fns l
def Zkb:Value->AV
 | .bool b=> .d .bool b
 | .int k n=> .d (.int k) n
 | .string s=> .d .str s.data.toList
 | .pointer none=> .nilr
 | .nilFunc=> .nilr
 | .map none=> .nilr
 | .slice none 0 0=> .nils
 |_=> .junk
def aev(F:Nat->AV):Operand->AV
 | .tmp t=>F t
 | .const v=>Zkb v
 | .global _=> .junk
 | .func f=> .fn f .nil
def Zrf(k:IntKind)(x y:Int):Option Int:=if y=0 then none else some (k.wrap (x.tdiv y))
def Zrk(x y:Int):Option Int:=if y=0 then none else some (x.tmod y)
def ZqS(k:IntKind)(x y:Int):Option Int:=if y<0 then none else some (k.wrap (x*2 ^ (min y.toNat k.bits)))
def Zq4(k:IntKind)(x y:Int):Option Int:=if y<0 then none else some (x.fdiv (2 ^ (min y.toNat k.bits)))
def ZqY(k:IntKind)(x y:Int):Int:=k.wrap (Vb k.bits x &&& Vb k.bits y).toNat
def qor(k:IntKind)(x y:Int):Int:=k.wrap (Vb k.bits x ||| Vb k.bits y).toNat
def ZrM(k:IntKind)(x y:Int):Int:=k.wrap (Vb k.bits x ^^^ Vb k.bits y).toNat
def qandNot(k:IntKind)(x y:Int):Int:=k.wrap (Vb k.bits x &&& ~~~ Vb k.bits y).toNat
def imin(x y:Int):Int:=if y<x then y else x
def imax(x y:Int):Int:=if x<y then y else x
def ZpU(op:BinOp)(k:IntKind)(x y:Int):Acc AV:=
 match op with
 | .add=> .ret (.d (.int k) (k.wrap (x+y)))
 | .sub=> .ret (.d (.int k) (k.wrap (x - y)))
 | .mul=> .ret (.d (.int k) (k.wrap (x*y)))
 | .quo=> .opt (Zrf k x y) fun z=> .ret (.d (.int k) z)
 | .rem=> .opt (Zrk x y) fun z=> .ret (.d (.int k) z)
 | .and=> .ret (.d (.int k) (ZqY k x y))
 | .or=> .ret (.d (.int k) (qor k x y))
 | .xor=> .ret (.d (.int k) (ZrM k x y))
 | .andNot=> .ret (.d (.int k) (qandNot k x y))
 | .shl=> .opt (ZqS k x y) fun z=> .ret (.d (.int k) z)
 | .shr=> .opt (Zq4 k x y) fun z=> .ret (.d (.int k) z)
 | .eql=> .ret (.d .bool (decide (x=y)))
 | .neq=> .ret (.d .bool (!decide (x=y)))
 | .lss=> .ret (.d .bool (decide (x<y)))
 | .leq=> .ret (.d .bool (decide (x<=y)))
 | .gtr=> .ret (.d .bool (decide (y<x)))
 | .geq=> .ret (.d .bool (decide (y<=x)))
def catStr(x y:List UInt8):Option (List UInt8):=bif decide (x.length+y.length<2 ^ 62) then some (x++y) else none
def Zrg(op:BinOp)(x y:List UInt8):Acc AV:=
 match op with
 | .add=> .opt (catStr x y) fun z=> .ret (.d .str z)
 | .eql=> .ret (.d .bool (decide (x=y)))
 | .neq=> .ret (.d .bool (!decide (x=y)))
 | .lss=> .ret (.d .bool (Op.bytesLess x y))
 | .gtr=> .ret (.d .bool (!(Op.bytesLess x y||decide (x=y))))
 | .leq=> .ret (.d .bool (Op.bytesLess x y||decide (x=y)))
 | .geq=> .ret (.d .bool (!Op.bytesLess x y))
 |_=> .fail
def Zl4:AV->Bool
 | .dp _ _=>true
 | .ptr _ _=>true
 | .vp _ _ _=>true
 | .np _ _ _ _ _ _=>true
 | .mp _=>true
 | .fn _ _=>true
 |_=>false
def Zri(θ:TypeId->Option Ty)(T:TypeId)(op:BinOp)(x y:AV):Acc AV:=
 match x,y with
 | .d (.int k) a, .d (.int k') b=>(match op with
  | .shl=>ZpU .shl k a b
  | .shr=>ZpU .shr k a b
  |op=>bif k==k' then ZpU op k a b else .fail)
 | .d .str a, .d .str b=>Zrg op a b
 | .d t a, .d t' b=>(match op with
  | .eql=>bif θ T==some t&&Ve t.dep 100 then .opt (ZaE t' t b) fun b=> .opt (ZbC t a b) fun r=> .ret (.d .bool r) else .fail
  | .neq=>bif θ T==some t&&Ve t.dep 100 then .opt (ZaE t' t b) fun b=> .opt (ZbC t a b) fun r=> .ret (.d .bool (!r)) else .fail
  |_=> .fail)
 |_,_=> .fail
def Zk0(k:Nat)(v:AV)(y:Operand):Bool:=match y with
 | .const (.pointer none)=>Va k 1&& (match v with| .ptr _ _=>true|_=>false)
 | .const .nilFunc=>Va k 2&& (match v with| .fn _ _=>true|_=>false)
 | .const (.map none)=>Va k 3&& (match v with| .mp _=>true|_=>false)
 |_=>false
def aun(op:UnOp)(x:AV):Acc AV:=
 match op,x with
 | .not, .d .bool b=> .ret (.d .bool (!b))
 | .neg, .d (.int k) n=> .ret (.d (.int k) (k.wrap (0 - n)))
 |_,_=> .fail
def zeroEl: (t:Ty)->El t
 | .int _=>(0:Int)
 | .bool=>false
 | .str=>([]:List UInt8)
 | .sl t=>([]:List (El t))
 | .unit=>()
 | .prod a b=>(zeroEl a,zeroEl b)
 | .arr n t=>Vc n (zeroEl t)
 | .ref=>()
def Ty.data:Ty->Bool
 | .ref=>false
 | .sl t=>t.data
 | .prod a b=>a.data&&b.data
 | .arr _ t=>t.data
 |_=>true
def Zol:Ty->AV
 | .ref=> .nilr
 | .sl _=> .nils
 |a=> .jk a.size
def Ty.isSl:Ty->Bool
 | .sl _=>true
 |_=>false
def ZeG(z:Bool)(a:Ty):AV:=bif a.data&& (z|| !a.isSl) then .d a (zeroEl a) else Zol a
def Zcy(z:Bool):Ty->AVs
 | .prod a b=> .cons (ZeG z a) (Zcy z b)
 |_=> .nil
def ZbK(t:Ty):AV:=
 bif t.data&& !t.isSl then .d t (zeroEl t) else match t with
  | .ref=> .nilr
  | .sl _=> .nils
  | .prod a b=> .agg (Zcy false (.prod a b))
  |t=> .jk t.size
def Zga(x:Bool)(t:Ty):AV:=bif x then(match t with
 | .prod a b=> .agg (Zcy false (.prod a b))
 |t=>ZbK t) else ZbK t
def ZcI(z:Bool)(parts:List (Nat×AV)):Ty->Nat->AVs
 | .prod a b,n=> .cons ((parts.lookup n).getD (ZeG z a)) (ZcI z parts b (n+1))
 |_,_=> .nil
def Zgy:AVs->Option DV
 | .nil=>some ⟨.unit,()⟩
 | .cons (.d t x) l=>match Zgy l with
  |some ⟨u,y⟩=>some ⟨.prod t u,(x,y)⟩
  |none=>none
 |_=>none
def Zgi(l:AVs):AV:=match Zgy l with
 |some ⟨t,x⟩=> .d t x
 |none=> .agg l
def Zco(t:Ty)(parts:List (Nat×AV)):Nat->Nat->Option (List (El t))
 |0,_=>some []
 |m+1,n=>match (parts.lookup n).getD (.d t (zeroEl t)) with
  | .d t' x=>(ZaE t' t x).bind fun y=>(Zco t parts m (n+1)).bind fun l=>some (y::l)
  |_=>none
def ZfU(e:Ty):List (Nat×AV)->Acc (List (Nat×AV) ×List Nat)
 | []=> .ret ([],[])
 |p::l=>(ZaJ e p.2).bind fun x=>(ZfU e l).bind fun r=> .ret ((p.1, .d e x.1)::r.1,x.2++r.2)
def fieldsOf:Ty->Nat
 | .prod _ b=>fieldsOf b+1
 |_=>0
def Ty.isStruct:Ty->Bool
 | .prod _ _=>true
 | .unit=>true
 |_=>false
def Zax:Nat:=2 ^ 39
def Zrq(t:Ty)(nid:Nat)(s x:AV):Acc (AV×ZaY):=
 (Zbq t s).bind fun r=>(ZhY t x).bind fun y=>
  .opt (Zas (decide (r.1.length+y.1.length<=Zax))) fun _=>
   .ret (.vw nid,(r.2.map fun id=>(id,none))++[(nid,some (.vec t (r.1++y.1)))])
def ZqV(t:Ty)(nid:Nat)(n:Int):Acc (AV×ZaY):=
 .opt (Zas (decide (1<=n/\n<=(Zax:Int)))) fun _=> .ret (.vw nid,[(nid,some (.vec t (Vc n.toNat (zeroEl t))))])
def Zqq(t:Ty)(d s:AV):Acc (AV×ZaY):=
 match d with
 | .vw id=> .getH id fun
  |some (.vec t' xs)=> .opt (ZaE (.sl t') (.sl t) xs) fun xs=>(ZhY t s).bind fun y=>
    .ret (.d (.int .i64) ((min y.1.length xs.length:Nat):Int),[(id,some (.vec t (y.1.take (min y.1.length xs.length)++xs.drop (min y.1.length xs.length))))])
  |_=> .fail
 | .vs id lo n=> .getH id fun
  |some (.vec t' xs)=> .opt (ZaE (.sl t') (.sl t) xs) fun xs=> .opt (Zas (Ve (lo+n) xs.length)) fun _=>(ZhY t s).bind fun y=>
    .ret (.d (.int .i64) ((min y.1.length n:Nat):Int),[(id,some (.vec t (xs.take lo++y.1.take (min y.1.length n)++xs.drop (lo+min y.1.length n))))])
  |_=> .fail
 |_=> .fail
def Zjv(id nid:Nat)(kt:Ty)(k:El kt):Acc Zc0:=
 .getH id fun
  |some (.rows t xs v none)=>bif Vd v nid then .opt (ZaE kt (.int .i64) k) fun i=> .ret (.rows t xs nid (some i.toNat)) else .fail
  |some (.mrows kt' t m v none)=>bif Vd v nid then .opt (ZaE kt kt' k) fun k' => .ret (.mrows kt' t m nid (some k')) else .fail
  |_=> .fail
def Zma(id:Nat)(kt:Ty)(k:El kt)(t:Ty)(row:List (El t)):Acc Zc0:=
 .getH id fun
  |some (.rows t' xs v none)=> .opt (ZaE kt (.int .i64) k) fun i=> .opt (ZaE (.sl t) (.sl t') row) fun y=> .ret (.rows t' (xs.set i.toNat y) v none)
  |some (.mrows kt' t' m v none)=> .opt (ZaE kt kt' k) fun k' => .opt (ZaE (.sl t) (.sl t') row) fun y=> .ret (.mrows kt' t' (ZaS (Zai kt') k' y m) v none)
  |_=> .fail
def ZqE(t:Ty)(nid id ver:Nat)(kt:Ty)(k:El kt)(x:AV):Acc (AV×ZaY):=
 (Zcr id ver kt k).bind fun r=> .opt (ZaE (.sl r.1) (.sl t) r.2) fun xs=>(ZhY t x).bind fun y=>
  .opt (Zas (decide (xs.length+y.1.length<=Zax))) fun _=> .opt (Zas (!Zdb id y.2)) fun _=>(Zjv id nid kt k).bind fun o=>
   .ret (.vw nid,[(id,some o),(nid,some (.vec t (xs++y.1)))])
def Zqj(t:Ty)(nid:Nat)(s x:AV):Acc (AV×ZaY):=
 (Zck t s).bind fun r=>(Zck t x).bind fun y=>
  .opt (Zas (decide (r.1.length+y.1.length<=Zax))) fun _=> .opt (Zas (Zdc (r.2++y.2))) fun _=>
   .ret (.vw nid,((r.2++y.2).map fun id=>(id,none))++[(nid,some (.rows t (r.1++y.1) 0 none))])
def ZdM(t:Ty)(parts:List (Nat×AV)):Nat->Nat->Acc (List (List (El t)) ×List Nat)
 |0,_=> .ret ([],[])
 |m+1,n=>(Zbq t ((parts.lookup n).getD .nils)).bind fun x=>(ZdM t parts m (n+1)).bind fun y=> .ret (x.1::y.1,x.2++y.2)
def ZoY(h:Option Nat)(i:Nat):Bool:=match h with
 |none=>true
 |some j=>Va j i
def holeK(kt:Ty)(h:Option (El kt))(k:El kt):Bool:=match h with
 |none=>true
 |some j=>Zai kt j k
def Zdy:Option Ty->Bool
 |some (.sl _)=>true
 |_=>false
def Zrp(t:Option Ty)(mp:Bool)(v:AV):Acc AV:=
 match v with
 | .d (.sl _) xs=>bif Zdy t then .ret (.d (.int .i64) (xs.length:Int)) else .fail
 | .d .str xs=>bif t==some .str then .ret (.d (.int .i64) (xs.length:Int)) else .fail
 | .nils=>bif Zdy t then .ret (.d (.int .i64) (0:Int)) else .fail
 | .vs _ _ n=>bif Zdy t then .ret (.d (.int .i64) (n:Int)) else .fail
 | .vw id=>bif Zdy t then .getH id fun
  |some (.vec _ xs)=> .ret (.d (.int .i64) (xs.length:Int))
  |some (.rows _ xs _ _)=> .ret (.d (.int .i64) (xs.length:Int))
  |some (.dat _ xs)=> .ret (.d (.int .i64) (xs.length:Int))
  |_=> .fail else .fail
 | .nw id ver kt k=>bif Zdy t then(Zcr id ver kt k).bind fun r=> .ret (.d (.int .i64) (r.2.length:Int)) else .fail
 | .mp id=>bif mp then .getH id fun
  |some (.map _ _ m)=> .ret (.d (.int .i64) (m.length:Int))
  |_=> .fail else .fail
 |_=> .fail
def Zcl(n:Nat):List Nat->Bool
 | []=>true
 |i::l=>Ve (i+1) n&& !(l.contains i) &&Zcl n l
def Zll(f:Int->Int->Int)(k:IntKind):Int->List AV->Acc AV
 |a,[]=> .ret (.d (.int k) a)
 |a, .d (.int k') b::l=>bif k' ==k then Zll f k (f a b) l else .fail
 |_,_=> .fail
def AV.solid:AV->Bool
 | .jk _=>false
 |_=>true
def Zba(v:AV):Option Int:=match v with
 | .d (.int _) n=>some n
 |_=>none
def sliceB(len cap:Nat)(lo hi:Option Int):Option (Nat×Nat):=
 let h:Option Nat:=match hi with|some x=>if 0<=x/\x<=cap then some x.toNat else none|none=>some len
 h.bind fun h=>match lo with
  |some x=>if 0<=x/\x<=h then some (x.toNat,h) else none
  |none=>some (0,h)
def Zbm(ev:Operand->AV):Option Operand->Bool
 |some x=>(Zba (ev x)).isSome
 |none=>true
def ZlR:AV->Option Nat
 | .d t _=>some t.size
 | .dp _ _=>some 1
 | .ptr _ _=>some 1
 | .vp _ _ _=>some 1
 | .mp _=>some 1
 | .fn _ _=>some 1
 | .nilr=>some 1
 | .nils=>some 1
 | .vw _=>some 1
 | .vs _ _ _=>some 1
 | .nw _ _ _ _=>some 1
 | .np _ _ _ _ _ _=>some 1
 |_=>none
def ZiH(v:AV):Bool:= !v.isAgg&& (match ZlR v with
 |some n=>Va n 1
 |none=>false)
def Zfw:AVs->Bool
 | .nil=>true
 | .cons v l=>ZiH v&&Zfw l
def Zha:List AV->Bool
 | []=>true
 | .tup _::_=>false
 |_::l=>Zha l
def Za1(E:Env)(nid:Nat)(op:Op)(_rt:TypeId)(ev:Operand->AV):Acc (AV×ZaY):=
 match op with
 | .move x=> .ret (ev x,[])
 | .assign x=> .ret (ev x,[])
 | .pick c a b=>(match ev c with
  | .d .bool t=> .bool t fun t=> .ret (bif t then ev a else ev b,[])
  |_=> .fail)
 | .alloc T=>(match E.bd T with
  |some e=> .ret (.ptr nid [],[(nid,some (.bld T e []))])
  |none=> .opt (E.ty T) fun t=> .ret (.ptr nid [],[(nid,some (.var t (Zga (E.zx T) t)))]))
 | .box T x=> .opt (E.ty T) fun t=>bif (ev x).fits t then .ret (.ptr nid [],[(nid,some (.var t (ev x)))]) else .fail
 | .build T ps=> .opt (E.ty T) fun t=>(match t with
  | .prod a b=>bif !Zcl (fieldsOf (.prod a b)) (ps.toList.map (·.1)) then .fail else let l:=ZcI (Ty.data (.prod a b) && !E.zx T) (ps.toList.map fun p=>(p.1,ev p.2)) (.prod a b) 0;bif l.fits (.prod a b) then(bif E.rw T then(ZaJ (.prod a b) (Zgi l)).bind fun r=> .ret (.d (.prod a b) r.1,r.2.map fun id=>(id,none)) else .ret (Zgi l,[])) else .fail
  | .arr n e=>bif !Zcl n (ps.toList.map (·.1)) || !e.data then .fail else .opt (Zco e (ps.toList.map fun p=>(p.1,ev p.2)) n 0) fun l=> .ret (.d (.arr n e) l,[])
  |_=> .fail)
 | .buildSlice T n ps=> .opt (E.ty T) fun t=>(match t with
  | .sl e=>bif E.rw T then(match e with
    | .sl e' =>bif !Zcl n (ps.toList.map (·.1)) ||Vd (2 ^ 24) n then .fail else(ZdM e' (ps.toList.map fun p=>(p.1,ev p.2)) n 0).bind fun r=> .opt (Zas (Zdc r.2)) fun _=> .ret (.vw nid,(r.2.map fun id=>(id,none))++[(nid,some (.rows e' r.1 0 none))])
    |_=> .fail) else bif !Zcl n (ps.toList.map (·.1)) || !e.data||Vd (2 ^ 24) (n*e.size) then .fail else(ZfU e (ps.toList.map fun p=>(p.1,ev p.2))).bind fun r=> .opt (Zco e r.1 n 0) fun l=>(Zh0 r.2).bind fun ds=> .ret (.vw nid,(r.2.map fun id=>(id,none))++[(nid,some (.vec e l))]++ds)
  |_=> .fail)
 | .load T a=> .opt (E.ty T) fun t=>(match ev a with
  | .dp t' x=>bif t' ==t then .ret (.d t' x,[]) else .fail
  | .ptr id p=> .getH id fun
   |some (.var _ c)=>(ZgG c p).bind fun v=>bif v.fits t&&v.solid then .ret (v,[]) else .fail
   |_=> .fail
  | .vp id i p=> .getH id fun
   |some (.vec _ xs)=> .opt xs[i]? fun x=>(Zeh _ x p).bind fun v=>bif v.1==t then .ret (.d v.1 v.2,[]) else .fail
   |some (.rows t0 xs v none)=>bif p.isEmpty&&t== .sl t0 then .opt xs[i]? fun _=> .ret (.nw id v (.int .i64) (i:Int),[]) else .fail
   |_=> .fail
  | .np id ver kt k i p=>(Zcr id ver kt k).bind fun r=> .opt r.2[i]? fun x=>(Zeh _ x p).bind fun v=>bif v.1==t then .ret (.d v.1 v.2,[]) else .fail
  |_=> .fail)
 | .store T a x=> .opt (E.ty T) fun t=>bif (ev x).fits t then(match ev a with
  | .ptr id p=> .getH id fun
   |some (.var t0 c)=>(Zlc t0 c p (ev x)).bind fun c' => .ret (.junk,[(id,some (.var t0 c'))])
   |_=> .fail
  | .vp id i p=> .getH id fun
   |some (.vec t0 xs)=> .opt xs[i]? fun e=> .opt (ev x).dv? fun y=>(Zc3 t0 e p y).bind fun e' => .ret (.junk,[(id,some (.vec t0 (xs.set i e')))])
   |some (.rows t0 xs v h)=>bif p.isEmpty&&t== .sl t0&&Vd v nid then .opt (Zas (ZoY h i)) fun _=> .opt xs[i]? fun _=>(Zbq t0 (ev x)).bind fun r=> .ret (.junk,(r.2.map fun id=>(id,none))++[(id,some (.rows t0 (xs.set i r.1) nid none))]) else .fail
   |_=> .fail
  | .np id ver kt k i p=>(Zcr id ver kt k).bind fun r=> .opt r.2[i]? fun e=> .opt (ev x).dv? fun y=>(Zc3 r.1 e p y).bind fun e' =>(Zma id kt k r.1 (r.2.set i e')).bind fun o=> .ret (.junk,[(id,some o)])
  |_=> .fail) else .fail
 | .nilCheck x=>bif Zl4 (ev x) then .ret (ev x,[]) else .fail
 | .binOp op T x y _=>bif Zk0 (E.pk T) (ev x) y then(match op with
   | .eql=> .ret (.d .bool false,[])
   | .neq=> .ret (.d .bool true,[])
   |_=> .fail) else(Zri E.ty T op (ev x) (ev y)).bind fun v=> .ret (v,[])
 | .unOp op _ x=>(aun op (ev x)).bind fun v=> .ret (v,[])
 | .convert S T x=> .opt (E.ty S) fun s=> .opt (E.ty T) fun t=>(match t,ev x with
  | .int k, .d (.int _) n=> .ret (.d (.int k) (k.wrap n),[])
  | .str, .d .str s=> .ret (.d .str s,[])
  | .str,v=>bif s== .sl (.int .u8) then(ZhY (.int .u8) v).bind fun r=> .ret (.d .str (ZhU r.1),[]) else .fail
  |_,_=> .fail)
 | .makeFunc (.func f) first caps=>bif first.isEmpty&&Zfw (AVs.ofList (caps.toList.map ev)) then .ret (.fn f (AVs.ofList (caps.toList.map ev)),[]) else .fail
 | .makeMap T r=> .opt (E.mty T) fun m=>bif E.rw T then(match m with
   | (kt, .sl t)=>bif kt.keyOk&& (match r with|none=>true|some x=>(Zba (ev x)).isSome) then .ret (.mp nid,[(nid,some (.mrows kt t [] 0 none))]) else .fail
   |_=> .fail) else bif m.1.keyOk&& (match r with|none=>true|some x=>(Zba (ev x)).isSome) then .ret (.mp nid,[(nid,some (.map m.1 m.2 []))]) else .fail
 | .makeSlice T l c=> .opt (E.ty T) fun t=>(match t,ev l,ev c with
  | .sl e, .d (.int _) n, .d (.int _) m=>bif E.rw T then(match e with
    | .sl e' => .opt (Zas (decide (0<=n/\n<=m/\m<=Zax))) fun _=> .ret (.vw nid,[(nid,some (.rows e' (Vc n.toNat []) 0 none))])
    |_=> .fail) else bif !e.data then .fail else .opt (Zas (decide (0<=n/\n<=m/\m<=Zax))) fun _=> .ret (.vw nid,[(nid,some (.vec e (Vc n.toNat (zeroEl e))))])
  |_,_,_=> .fail)
 | .slice T x lo hi none=>bif !(Zbm ev lo&&Zbm ev hi) then .fail else(match ev x with
  | .d (.sl t) xs=>bif !(E.ty T==some (.sl t)) then .fail else .opt (sliceB xs.length xs.length (lo.bind fun o=>Zba (ev o)) (hi.bind fun o=>Zba (ev o))) fun r=> .ret (.d (.sl t) ((xs.drop r.1).take (r.2 - r.1)),[])
  | .d .str xs=>bif !(E.ty T==some .str) then .fail else .opt (sliceB xs.length xs.length (lo.bind fun o=>Zba (ev o)) (hi.bind fun o=>Zba (ev o))) fun r=> .ret (.d .str ((xs.drop r.1).take (r.2 - r.1)),[])
  | .nils=>(match E.ty T with
   |some (.sl _)=> .opt (sliceB 0 0 (lo.bind fun o=>Zba (ev o)) (hi.bind fun o=>Zba (ev o))) fun _=> .ret (.nils,[])
   |_=> .fail)
  | .vw id=> .getH id fun
   |some (.vec t xs)=>bif !(E.ty T==some (.sl t)) then .fail else .opt (sliceB xs.length xs.length (lo.bind fun o=>Zba (ev o)) (hi.bind fun o=>Zba (ev o))) fun r=>(match lo with|none=> .ret (.vs id 0 r.2,[]) |some _=> .ret (.vs id r.1 (r.2 - r.1),[]))
   |some (.dat t xs)=>bif !(E.ty T==some (.sl t)) then .fail else .opt (sliceB xs.length xs.length (lo.bind fun o=>Zba (ev o)) (hi.bind fun o=>Zba (ev o))) fun r=> .ret (.d (.sl t) ((xs.drop r.1).take (r.2 - r.1)),[])
   |_=> .fail
  |_=> .fail)
 | .slice T x lo (some hi) (some mx)=>bif !(Zbm ev lo&&Zbm ev (some hi)) then .fail else(match ev x with
  | .vw id=> .getH id fun
   |some (.vec t xs)=>bif !(E.ty T==some (.sl t)) then .fail else .opt (Zba (ev mx)) fun m=> .opt (inb m (xs.length+1)) fun m=> .opt (sliceB xs.length m (lo.bind fun o=>Zba (ev o)) (Zba (ev hi))) fun r=>(match lo with|none=> .ret (.vs id 0 r.2,[]) |some _=> .ret (.vs id r.1 (r.2 - r.1),[]))
   |_=> .fail
  |_=> .fail)
 | .fieldAddr T x f=> .opt (E.ty T) fun t=> .opt (Zbh t [f]) fun r=>bif Va r.2.size 0|| !t.isStruct then .fail else(match ev x with
  | .dp t' y=>bif t' ==t then(Zeh t' y [f]).bind fun v=> .ret (.dp v.1 v.2,[]) else .fail
  | .ptr id p=> .getH id fun
   |some (.var t0 _)=> .opt (Zo9 t0 p) fun q=>bif q==t then .ret (.ptr id (p++[f]),[]) else .fail
   |_=> .fail
  | .vp id i p=> .getH id fun
   |some (.vec t0 _)=> .opt (Zbh t0 p) fun q=>bif q.2==t then .ret (.vp id i (p++[f]),[]) else .fail
   |_=> .fail
  | .np id ver kt k i p=>(Zcr id ver kt k).bind fun s=> .opt (Zbh s.1 p) fun q=>bif q.2==t then .ret (.np id ver kt k i (p++[f]),[]) else .fail
  |_=> .fail)
 | .field T x f=> .opt (E.ty T) fun t=> .opt (Zbh t [f]) fun r=>bif !t.isStruct|| !(ev x).fits t|| !(ev x).solid then .fail else(ZgG (ev x) [f]).bind fun v=>bif v.fits r.2&&v.solid then .ret (v,[]) else .fail
 | .indexAddr T x i=> .opt (E.ty T) fun T' =>(match ev x,ev i with
  | .d (.sl t) xs, .d (.int _) n=>bif T' == .sl t then .opt (idx xs n) fun y=> .ret (.dp t y,[]) else .fail
  | .vw id, .d (.int _) n=> .getH id fun
   |some (.vec t xs)=>bif T' == .sl t then .opt (inb n xs.length) fun j=> .ret (.vp id j [],[]) else .fail
   |some (.rows t xs _ _)=>bif T' == .sl (.sl t) then .opt (inb n xs.length) fun j=> .ret (.vp id j [],[]) else .fail
   |some (.dat t xs)=>bif T' == .sl t then .opt (idx xs n) fun y=> .ret (.dp t y,[]) else .fail
   |_=> .fail
  | .nw id ver kt k, .d (.int _) n=>(Zcr id ver kt k).bind fun r=>bif T' == .sl r.1 then .opt (inb n r.2.length) fun j=> .ret (.np id ver kt k j [],[]) else .fail
  | .vs id lo m, .d (.int _) n=> .getH id fun
   |some (.vec t xs)=>bif T' == .sl t then .opt (Zas (decide (lo+m<=xs.length))) fun _=> .opt (inb n m) fun j=> .ret (.vp id (lo+j) [],[]) else .fail
   |_=> .fail
  | .dp (.arr m t) xs, .d (.int _) n=>bif T' == .arr m t then .opt (idx xs n) fun y=> .ret (.dp t y,[]) else .fail
  | .ptr id p, .d (.int _) n=> .getH id fun
   |some (.var t0 _)=> .opt (Zbh t0 p) fun q=>(match q.2 with
    | .arr m t=>bif T' == .arr m t then .opt (inb n m) fun j=> .ret (.ptr id (p++[j]),[]) else .fail
    |_=> .fail)
   |_=> .fail
  |_,_=> .fail)
 | .index T x i=> .opt (E.ty T) fun T' =>(match ev x,ev i with
  | .d (.arr m t) xs, .d (.int _) n=>bif T' == .arr m t&& !Va t.size 0 then .opt (idx xs n) fun y=> .ret (.d t y,[]) else .fail
  | .d .str xs, .d (.int _) n=>bif T' == .str then .opt (idx xs n) fun y=> .ret (.d (.int .u8) (y.toNat:Int),[]) else .fail
  |_,_=> .fail)
 | .lookup T m k ok=> .opt (E.mty T) fun mt=>(match ev m,ev k with
  | .mp id, .d kt x=> .getH id fun
   |some (.map kt' vt es)=>bif kt'.keyOk&&mt.1==kt' &&mt.2==vt&&vt.data then .opt (ZaE kt kt' x) fun y=>
     .ret (bif ok then .tup (.cons (.d vt ((Zaw (Zai kt') y es).getD (zeroEl vt))) (.cons (.d .bool (Zaw (Zai kt') y es).isSome) .nil)) else .d vt ((Zaw (Zai kt') y es).getD (zeroEl vt)),[]) else .fail
   |some (.mrows kt' t m v none)=>bif kt'.keyOk&&mt.1==kt' &&mt.2== .sl t then .opt (ZaE kt kt' x) fun y=>
     .ret (bif ok then .tup (.cons (.nw id v kt' y) (.cons (.d .bool (Zaw (Zai kt') y m).isSome) .nil)) else .nw id v kt' y,[]) else .fail
   |_=> .fail
  |_,_=> .fail)
 | .mapUpdate T m k v=> .opt (E.mty T) fun mt=>(match ev m,ev k,ev v with
  | .mp id, .d kt x, .d vt z=> .getH id fun
   |some (.map kt' vt' es)=>bif kt'.keyOk&&mt.1==kt' then .opt (ZaE kt kt' x) fun y=> .opt (ZaE vt vt' z) fun u=> .ret (.junk,[(id,some (.map kt' vt' (ZaS (Zai kt') y u es)))]) else .fail
   |_=> .fail
  | .mp id, .d kt x, .vw i2=> .getH id fun
   |some (.mrows kt' t es u h)=>bif kt'.keyOk&&mt.1==kt' &&mt.2== .sl t&&Vd u nid then .opt (ZaE kt kt' x) fun y=> .opt (Zas (holeK kt' h y)) fun _=>(Zbq t (.vw i2)).bind fun r=>
     .ret (.junk,(r.2.map fun id=>(id,none))++[(id,some (.mrows kt' t (ZaS (Zai kt') y r.1 es) nid none))]) else .fail
   |_=> .fail
  |_,_,_=> .fail)
 | .range T x=> .opt (E.mty T) fun _=>(match ev x with
  | .mp id=> .getH id fun
   |some (.map kt vt m)=> .ret (.ptr nid [],[(id,none),(nid,some (.rng kt vt m none))])
   |_=> .fail
  |_=> .fail)
 | .next it false=>(match ev it with
  | .ptr id []=> .getH id fun
   |some (.rng _ _ [] _)=> .ret (.tup (.cons (.d .bool false) .nil),[])
   |_=> .fail
  |_=> .fail)
 | .entry it=>(match ev it with
  | .ptr id []=> .getH id fun
   |some (.rng kt vt _ (some e))=> .ret (.tup (.cons (.d kt e.1) (.cons (.d vt e.2) .nil)),[])
   |_=> .fail
  |_=> .fail)
 | .extract t i=>(match ev t with
  | .tup l=> .opt (l.nth i) fun v=> .ret (v,[])
  |_=> .fail)
 | .call c=>(match c.callee with
  | .builtin .len=>(match c.args.toList,c.argTypes[0]? with
   | [x],some T=>(Zrp (E.ty T) (E.mty T).isSome (ev x)).bind fun v=> .ret (v,[])
   |_,_=> .fail)
  | .builtin .min=>(match c.args.toList with
   |x::l=>(match ev x with
    | .d (.int k) a=>(Zll imin k a (l.map ev)).bind fun v=> .ret (v,[])
    |_=> .fail)
   |_=> .fail)
  | .builtin .max=>(match c.args.toList with
   |x::l=>(match ev x with
    | .d (.int k) a=>(Zll imax k a (l.map ev)).bind fun v=> .ret (v,[])
    |_=> .fail)
   |_=> .fail)
  | .builtin .append=>(match c.args.toList,(c.argTypes[0]?).bind E.ty with
   | [s,x],some (.sl t)=>bif !Zdy ((c.argTypes[1]?).bind E.ty) then(match ev s,ev x,(c.argTypes[1]?).bind E.ty with
     | .nils, .d (.int _) n,some (.int _)=>bif (c.argTypes[0]?).any E.rw|| !t.data then .fail else ZqV t nid n
     |_,_,_=> .fail) else bif (c.argTypes[0]?).any E.rw then(match t with
     | .sl t' =>Zqj t' nid (ev s) (ev x)
     |_=> .fail) else(match ev s with
     | .nw id ver kt k=>ZqE t nid id ver kt k (ev x)
     |s=>Zrq t nid s (ev x))
   |_,_=> .fail)
  | .builtin .copy=>(match c.args.toList,(c.argTypes[0]?).bind E.ty with
   | [d,s],some (.sl t)=>Zqq t (ev d) (ev s)
   |_,_=> .fail)
  | .builtin .cap=>(match c.args.toList,c.argTypes[0]? with
   | [x],some T=>(match ev x with
    | .nils=>bif Zdy (E.ty T) then .ret (.d (.int .i64) (0:Int),[]) else .fail
    |_=> .fail)
   |_,_=> .fail)
  | .value f=>(match ev f with
   | .fn f caps=>bif !(Zfw caps&&Zha (c.args.toList.map ev)) then .fail else let avs:=(AVs.ofList (c.args.toList.map ev)).app caps
    ZdW nid avs (ZbZ (Zmi avs) (E.specs f))
   |_=> .fail)
  |_=> .fail)
 |_=> .fail
def Zlz(t:Ty)(v:AV):Bool:=v.fits t&&ZiH v
def Zox(v:AV):Acc Bool:=
 match v with
 | .nils=> .ret true
 | .d (.sl _) xs=> .opt (Zas (!xs.isEmpty)) fun _=> .ret false
 | .vw id=> .getH id fun
  |some (.vec _ xs)=> .opt (Zas (!xs.isEmpty)) fun _=> .ret false
  |_=> .fail
 |_=> .fail
def Zop(t:Ty)(v:AV):Acc (List AV×List Nat):=
 match v with
 | .nils=> .ret ([],[])
 | .vw id=> .getH id fun
  |some (.cel t' l)=>bif t' ==t then .ret (l,[id]) else .fail
  |_=> .fail
 |_=> .fail
def ZiB(E:Env)(T:TypeId):Option Ty:=
 match E.ty T with
 |some (.sl t)=>bif t.data||E.rw T|| !Va t.size 1 then none else match t with
  | .ref=>some .ref
  | .sl e=>some (.sl e)
  |_=>none
 |_=>none
def aop(E:Env)(nid:Nat)(op:Op)(rt:TypeId)(ev:Operand->AV):Acc (AV×ZaY):=
 match op with
 | .call c=>(match c.callee with
  | .value f=>(match ev f with
   | .fn f caps=>(match E.inl f with
    |some h=>bif Zfw caps&&Zha (c.args.toList.map ev) then h nid ((AVs.ofList (c.args.toList.map ev)).app caps) else .fail
    |none=>Za1 E nid op rt ev)
   |_=>Za1 E nid op rt ev)
  | .builtin .len=>(match c.args.toList,c.argTypes[0]? with
   | [x],some T=>(match ev x with
    | .vw id=> .getH id fun
     |some (.cel t l)=>bif E.ty T==some (.sl t) then .ret (.d (.int .i64) (l.length:Int),[]) else .fail
     |_=>Za1 E nid op rt ev
    |_=>Za1 E nid op rt ev)
   |_,_=>Za1 E nid op rt ev)
  | .builtin .append=>(match c.args.toList,(c.argTypes[0]?).bind (ZiB E),(c.argTypes[1]?).bind E.ty with
   | [s,x],some t,some (.sl t')=>bif !(t' ==t) then .fail else(Zop t (ev s)).bind fun p=>(Zop t (ev x)).bind fun q=> .opt (Zas (Zdc (p.2++q.2) &&decide (p.1.length+q.1.length<=Zax))) fun _=>
     .ret (.vw nid,((p.2++q.2).map fun id=>(id,none))++[(nid,some (.cel t (p.1++q.1)))])
   |_,_,_=>Za1 E nid op rt ev)
  | .builtin .clear=>(match c.args.toList,(c.argTypes[0]?).bind E.ty with
   | [x],some (.sl t)=>(match ev x with
    | .vs id lo n=> .getH id fun
     |some (.vec t' xs)=>bif t' ==t&&t'.data then .opt (Zas (decide (lo+n<=xs.length))) fun _=> .ret (.tup .nil,[(id,some (.vec t' (xs.take lo++Vc n (zeroEl t')++xs.drop (lo+n))))]) else .fail
     |_=> .fail
    |_=> .fail)
   |_,_=> .fail)
  |_=>Za1 E nid op rt ev)
 | .makeFunc fn first caps=>bif first.isEmpty then Za1 E nid (.makeFunc fn first caps) rt ev else .ret (.junk,[])
 | .load T a=>(match ev a with
  | .vp id i []=> .getH id fun
   |some (.cel t l)=>bif E.ty T==some t then .opt l[i]? fun v=> .ret (v,[]) else .fail
   |_=>Za1 E nid op rt ev
  |_=>Za1 E nid op rt ev)
 | .store T a x=>(match ev a with
  | .vp id i []=> .getH id fun
   |some (.cel t l)=>bif E.ty T==some t&&Zlz t (ev x) then .opt l[i]? fun _=> .ret (.junk,[(id,some (.cel t (l.set i (ev x))))]) else .fail
   |_=>Za1 E nid op rt ev
  |_=>Za1 E nid op rt ev)
 | .indexAddr T x i=>(match ev x,ev i with
  | .vw id, .d (.int _) n=> .getH id fun
   |some (.cel t l)=>bif E.ty T==some (.sl t) then .opt (inb n l.length) fun j=> .ret (.vp id j [],[]) else .fail
   |_=>Za1 E nid op rt ev
  | .vp id i p, .d (.int _) n=> .getH id fun
   |some (.vec t0 _)=> .opt (Zbh t0 p) fun q=>(match q.2 with
    | .arr m t=>bif E.ty T==some (.arr m t) then .opt (inb n m) fun j=> .ret (.vp id i (p++[j]),[]) else .fail
    |_=> .fail)
   |_=>Za1 E nid op rt ev
  |_,_=>Za1 E nid op rt ev)
 | .slice T x lo hi none=>(match ev x with
  | .vw id=> .getH id fun
   |some (.cel t l)=>bif !(Zbm ev lo&&Zbm ev hi) || !(E.ty T==some (.sl t)) then .fail else .opt (sliceB l.length l.length (lo.bind fun o=>Zba (ev o)) (hi.bind fun o=>Zba (ev o))) fun r=> .ret (.vs id r.1 (r.2 - r.1),[])
   |_=>Za1 E nid op rt ev
  | .ptr id []=> .getH id fun
   |some (.var t0 (.d (.arr n t) xs))=>bif !(Zbm ev lo&&Zbm ev hi) || !(E.ty T==some (.arr n t)) || !(t0== .arr n t) then .fail else .opt (sliceB n n (lo.bind fun o=>Zba (ev o)) (hi.bind fun o=>Zba (ev o))) fun r=> .ret (.d (.sl t) ((xs.drop r.1).take (r.2 - r.1)),[(id,none)])
   |_=>Za1 E nid op rt ev
  |_=>Za1 E nid op rt ev)
 | .makeSlice T l c=>(match ZiB E T,ev l,ev c with
  |some (.sl e), .d (.int _) n, .d (.int _) m=> .opt (Zas (decide (0<=n/\n<=m/\m<=Zax))) fun _=> .ret (.vw nid,[(nid,some (.cel (.sl e) (Vc n.toNat .nils)))])
  |_,_,_=>Za1 E nid op rt ev)
 | .buildSlice T n ps=>(match ZiB E T,n,ps.toList with
  |some t,1,[(0,x)]=>bif Zlz t (ev x) then .ret (.vw nid,[(nid,some (.cel t [ev x]))]) else .fail
  |_,_,_=>Za1 E nid op rt ev)
 | .binOp b T x y _=>(match ev x,ev y with
  | .ptr i [], .ptr j []=>bif Va i j&&E.pz T then(match b with
   | .eql=> .ret (.d .bool true,[])
   | .neq=> .ret (.d .bool false,[])
   |_=> .fail) else Za1 E nid op rt ev
  |u, .nils=>bif Zdy (E.ty T) then(Zox u).bind fun r=>(match b with
   | .eql=> .ret (.d .bool r,[])
   | .neq=> .ret (.d .bool (!r),[])
   |_=> .fail) else Za1 E nid op rt ev
  |_,_=>Za1 E nid op rt ev)
 |op=>Za1 E nid op rt ev
end Tr
