/- The definitions of the abstract machine, continued: patterns, extraction and injection, specs, the operations, regions, code. Conditions: none. -/
import Derived.Test.YtdpenljjnfmgiaaGreatTrC
open BitVec renaming ofInt ->Vb
open List renaming replicate ->Vc
open Nat renaming beq ->Va,blt ->Vd,ble ->Ve
namespace Tr
open Go
def Ty.dep:Ty->Nat
 | .prod a b=>max (a.dep+1) b.dep
 | .arr _ t=>t.dep+1
 | .sl t=>t.dep+1
 |_=>1
def eqEl: (t:Ty)->El t->El t->Option Bool
 | .int _,x,y=>some (decide (x=y))
 | .bool,x,y=>some (x==y)
 | .str,x,y=>some (decide (x=y))
 | .unit,_,_=>some true
 | .prod a .unit,x,y=>eqEl a x.1 y.1
 | .prod a b,x,y=>(eqEl a x.1 y.1).bind fun p=>(eqEl b x.2 y.2).bind fun q=>some (p&&q)
 | .arr _ t,x,y=>(eqs (eqEl t) x y)
 |_,_,_=>none
where eqs {α:Type} (f:α->α->Option Bool):List α->List α->Option Bool
 | [],[]=>some true
 |a::l,b::m=>(f a b).bind fun p=>(eqs f l m).bind fun q=>some (p&&q)
 |_,_=>none
def Za1{α β:Type}(eq:α->α->Bool)(k:α):List (α×β)->Option β
 | []=>none
 |e::l=>bif eq k e.1 then some e.2 else Za1 eq k l
def Zbd{α β:Type}(eq:α->α->Bool)(k:α)(v:β):List (α×β)->List (α×β)
 | []=>[(k,v)]
 |e::l=>bif eq k e.1 then(k,v)::l else e::Zbd eq k v l
def Zat(t:Ty)(x y:El t):Bool:=(eqEl t x y).getD false
def Ty.key:Ty->Bool
 | .int _=>true
 | .bool=>true
 | .str=>true
 | .unit=>true
 | .prod a b=>a.key&&b.key
 | .arr _ t=>t.key
 |_=>false
def Ty.keyOk(t:Ty):Bool:=t.key&&Ve t.dep 100
mutual
inductive Pat where
 |pd (t:Ty)
 |own (t:Ty) (keep:Bool)
 |var (t:Ty) (p:Pat)
 |ro (t:Ty)
 |map (kt vt:Ty)
 |rows (t:Ty) (keep:Bool)
 |mrows (kt t:Ty)
 |it (kt vt:Ty)
 |bld (T e:TypeId) (keep:Bool)
 |agg (l:ZaS)
 |fn (f:FuncId) (l:ZaS)
 |nilr
 |nils
 |any
inductive ZaS where
 |nil
 |cons (p:Pat) (l:ZaS)
end
mutual
@[reducible] def ElP:Pat->Type
 | .pd t=>El t
 | .own t _=>List (El t)
 | .var _ p=>ElP p
 | .ro t=>El t
 | .map kt vt=>List (El kt×El vt)
 | .rows t _=>List (List (El t))
 | .mrows kt t=>List (El kt×List (El t))
 | .it kt vt=>List (El kt×El vt)
 | .bld _ _ _=>List UInt8
 | .agg l=>Zce l
 | .fn _ l=>Zce l
 | .nilr=>Unit
 | .nils=>Unit
 | .any=>Unit
@[reducible] def Zce:ZaS->Type
 | .nil=>Unit
 | .cons p l=>ElP p×Zce l
end
mutual
@[reducible] def ZjT:Pat->Type
 | .own t true=>List (El t)
 | .var _ p=>ElP p
 | .map kt vt=>List (El kt×El vt)
 | .rows t true=>List (List (El t))
 | .mrows kt t=>List (El kt×List (El t))
 | .bld _ _ true=>List UInt8
 | .agg l=>Zbx l
 | .fn _ l=>Zbx l
 |_=>Unit
@[reducible] def Zbx:ZaS->Type
 | .nil=>Unit
 | .cons p l=>ZjT p×Zbx l
end
def Zb8(id ver:Nat)(kt:Ty)(k:El kt):Acc ((t:Ty) ×List (El t)):=
 .getH id fun
  |some (.rows t xs v none)=>bif Va v ver then .opt (Zay kt (.int .i64) k) fun i=> .opt (idx xs i) fun x=> .ret ⟨t,x⟩ else .fail
  |some (.mrows kt' t m v none)=>bif Va v ver&&kt'.keyOk then .opt (Zay kt kt' k) fun k' => .ret ⟨t,(Za1 (Zat kt') k' m).getD []⟩ else .fail
  |_=> .fail
mutual
def ZaD: (t:Ty)->AV->Acc (El t×List Nat)
 |t, .d t' x=> .opt (Zay t' t x) fun y=> .ret (y,[])
 | .sl _, .nils=> .ret ([],[])
 | .sl t, .vw id=> .getH id fun
  |some (.vec t' xs)=> .opt (Zay (.sl t') (.sl t) xs) fun y=> .ret (y,[id])
  |some (.rows t' xs _ none)=> .opt (Zay (.sl (.sl t')) (.sl t) xs) fun y=> .ret (y,[id])
  |some (.dat t' xs)=> .opt (Zay (.sl t') (.sl t) xs) fun y=> .ret (y,[])
  |_=> .fail
 | .sl t, .nw id ver kt k=>(Zb8 id ver kt k).bind fun r=> .opt (Zay (.sl r.1) (.sl t) r.2) fun y=> .ret (y,[id])
 | .sl t, .vs id lo n=> .getH id fun
  |some (.vec t' xs)=> .opt (Zay (.sl t') (.sl t) xs) fun y=> .ret ((y.drop lo).take n,[id])
  |_=> .fail
 |t, .agg l=>Zbt t l
 |_,_=> .fail
def Zbt: (t:Ty)->AVs->Acc (El t×List Nat)
 | .unit, .nil=> .ret ((),[])
 | .prod a b, .cons v l=>(ZaD a v).bind fun x=>(Zbt b l).bind fun y=> .ret ((x.1,y.1),x.2++y.2)
 |_,_=> .fail
end
def ZgQ(l:List Int):List UInt8:=l.map fun n=>UInt8.ofNat n.toNat
def ZgC(t:Ty)(x:AV):Acc (List (El t) ×List Nat):=
 match x with
 | .vw id=> .getH id fun
  |some (.rows _ _ _ _)=> .fail
  |_=>ZaD (.sl t) (.vw id)
 |x=>ZaD (.sl t) x
def Zbe(t:Ty)(v:AV):Acc (List (El t) ×List Nat):=
 match v with
 | .vw id=> .getH id fun
  |some (.vec t' xs)=> .opt (Zay (.sl t') (.sl t) xs) fun y=> .ret (y,[id])
  |_=> .fail
 | .vs id 0 n=> .getH id fun
  |some (.vec t' xs)=> .opt (Zay (.sl t') (.sl t) xs) fun y=> .ret (y.take n,[id])
  |_=> .fail
 | .nils=> .ret ([],[])
 |_=> .fail
def Zb5(t:Ty)(v:AV):Acc (List (List (El t)) ×List Nat):=
 match v with
 | .vw id=> .getH id fun
  |some (.rows t' xs _ none)=> .opt (Zay (.sl (.sl t')) (.sl (.sl t)) xs) fun y=> .ret (y,[id])
  |_=> .fail
 | .nils=> .ret ([],[])
 |_=> .fail
structure Ids where
 tk:List Nat
 br:List Nat
def Ids.none:Ids:=⟨[],[]⟩
def Ids.app(a b:Ids):Ids:=⟨a.tk++b.tk,a.br++b.br⟩
mutual
def Pat.fits:Pat->Ty->Bool
 | .pd t',t=>t' ==t
 | .own t' _, .sl t=>t' ==t
 | .rows t' _, .sl (.sl t)=>t' ==t
 | .mrows _ _, .ref=>true
 | .it _ _, .ref=>true
 | .bld _ _ _, .ref=>true
 | .var _ _, .ref=>true
 | .ro _, .ref=>true
 | .map _ _, .ref=>true
 | .fn _ _, .ref=>true
 | .nilr, .ref=>true
 | .nils, .sl _=>true
 | .agg l,t=>l.fits t
 |_,_=>false
def ZaS.fits:ZaS->Ty->Bool
 | .nil, .unit=>true
 | .cons p l, .prod a b=>p.fits a&&l.fits b
 |_,_=>false
end
mutual
def ext: (p:Pat)->AV->Acc (ElP p×Ids)
 | .pd t,v=>(ZaD t v).bind fun r=> .ret (r.1,⟨[],r.2⟩)
 | .own t _,v=>(Zbe t v).bind fun r=> .ret (r.1,⟨r.2,[]⟩)
 | .var t p,v=>(match v with
  | .ptr id []=> .getH id fun
   |some (.var t' c)=>bif t' ==t&&p.fits t then(ext p c).bind fun r=> .ret (r.1,⟨id::r.2.tk,r.2.br⟩) else .fail
   |_=> .fail
  |_=> .fail)
 | .ro t,v=>(match v with
  | .ptr id []=> .getH id fun
   |some (.var _ (.d t' x))=> .opt (Zay t' t x) fun y=> .ret (y,⟨[],[id]⟩)
   |_=> .fail
  | .dp t' x=> .opt (Zay t' t x) fun y=> .ret (y,Ids.none)
  |_=> .fail)
 | .map kt vt,v=>(match v with
  | .mp id=> .getH id fun
   |some (.map k e m)=> .opt (Zay (.sl (.prod k e)) (.sl (.prod kt vt)) m) fun y=> .ret (y,⟨[id],[]⟩)
   |_=> .fail
  |_=> .fail)
 | .rows t _,v=>(Zb5 t v).bind fun r=> .ret (r.1,⟨r.2,[]⟩)
 | .mrows kt t,v=>(match v with
  | .mp id=> .getH id fun
   |some (.mrows k t' m _ none)=> .opt (Zay (.sl (.prod k (.sl t'))) (.sl (.prod kt (.sl t))) m) fun y=> .ret (y,⟨[id],[]⟩)
   |_=> .fail
  |_=> .fail)
 | .it kt vt,v=>(match v with
  | .ptr id []=> .getH id fun
   |some (.rng k e m _)=> .opt (Zay (.sl (.prod k e)) (.sl (.prod kt vt)) m) fun y=> .ret (y,⟨[id],[]⟩)
   |_=> .fail
  |_=> .fail)
 | .bld T e _,v=>(match v with
  | .ptr id []=> .getH id fun
   |some (.bld T' e' bs)=>bif Va T' T&&Va e' e then .ret (bs,⟨[id],[]⟩) else .fail
   |_=> .fail
  |_=> .fail)
 | .agg l,v=>(match v with
  | .agg vs=>Zdt l vs
  | .d t x=>bif (Zbl t x).fits t then Zdt l (Zbl t x) else .fail
  |_=> .fail)
 | .fn f l,v=>(match v with
  | .fn f' caps=>bif Va f' f then Zdt l caps else .fail
  |_=> .fail)
 | .nilr,v=>(match v with
  | .nilr=> .ret ((),Ids.none)
  |_=> .fail)
 | .nils,v=>(match v with
  | .nils=> .ret ((),Ids.none)
  |_=> .fail)
 | .any,_=> .ret ((),Ids.none)
def Zdt: (l:ZaS)->AVs->Acc (Zce l×Ids)
 | .nil, .nil=> .ret ((),Ids.none)
 | .cons p l, .cons v vs=>(ext p v).bind fun x=>(Zdt l vs).bind fun y=> .ret ((x.1,y.1),x.2.app y.2)
 |_,_=> .fail
end
mutual
def inj: (p:Pat)->ElP p->Nat->AV×List (Nat×Zcv) ×Nat
 | .pd t,x,n=>(.d t x,[],n)
 | .own t _,x,n=>(.vw n,[(n, .vec t x)],n+1)
 | .var t p,x,n=>let r:=inj p x (n+1);(.ptr n [],(n, .var t r.1)::r.2.1,r.2.2)
 | .ro t,x,n=>(.dp t x,[],n)
 | .map kt vt,x,n=>(.mp n,[(n, .map kt vt x)],n+1)
 | .rows t _,x,n=>(.vw n,[(n, .rows t x 0 none)],n+1)
 | .mrows kt t,x,n=>(.mp n,[(n, .mrows kt t x 0 none)],n+1)
 | .it kt vt,x,n=>(.ptr n [],[(n, .rng kt vt x none)],n+1)
 | .bld T e _,x,n=>(.ptr n [],[(n, .bld T e x)],n+1)
 | .agg l,x,n=>let r:=Zbj l x n;(.agg r.1,r.2)
 | .fn f l,x,n=>let r:=Zbj l x n;(.fn f r.1,r.2)
 | .nilr,_,n=>(.nilr,[],n)
 | .nils,_,n=>(.nils,[],n)
 | .any,_,n=>(.junk,[],n)
def Zbj: (l:ZaS)->Zce l->Nat->AVs×List (Nat×Zcv) ×Nat
 | .nil,_,n=>(.nil,[],n)
 | .cons p l,x,n=>let r:=inj p x.1 n;let s:=Zbj l x.2 r.2.2;(.cons r.1 s.1,r.2.1++s.2.1,s.2.2)
end
mutual
def ZaH: (p:Pat)->AV->ZjT p->Nat->List (Nat×Option Zcv) ×Nat
 | .own t true, .vw id,x,n=>([(id,some (.vec t x))],n)
 | .var t p, .ptr id [],x,n=>let r:=inj p x n;((id,some (.var t r.1))::r.2.1.map fun o=>(o.1,some o.2),r.2.2)
 | .map kt vt, .mp id,x,n=>([(id,some (.map kt vt x))],n)
 | .rows t true, .vw id,x,n=>([(id,some (.rows t x n none))],n)
 | .mrows kt t, .mp id,x,n=>([(id,some (.mrows kt t x n none))],n)
 | .bld T e true, .ptr id [],x,n=>([(id,some (.bld T e x))],n)
 | .agg l, .agg vs,x,n=>Zbk l vs x n
 | .fn _ l, .fn _ vs,x,n=>Zbk l vs x n
 |_,_,_,n=>([],n)
def Zbk: (l:ZaS)->AVs->Zbx l->Nat->List (Nat×Option Zcv) ×Nat
 | .nil,_,_,n=>([],n)
 | .cons p l, .cons v vs,x,n=>let r:=ZaH p v x.1 n;let s:=Zbk l vs x.2 r.2;(r.1++s.1,s.2)
 | .cons _ _, .nil,_,n=>([],n)
end
structure Spec where
 args:ZaS
 res:ZaS
 fns:List FuncId
 α:Type
 f:Zce args->Option α
 unp:α->Zbx args×Zce res
 pl:Bool:=true
 kp:List (Nat×Nat×Nat):=[]
abbrev ZaN:=List (Nat×Option Zcv)
structure Env where
 ty:TypeId->Option Ty
 mty:TypeId->Option (Ty×Ty)
 rw:TypeId->Bool:=fun _=>false
 zx:TypeId->Bool:=fun _=>false
 bd:TypeId->Option TypeId:=fun _=>none
 pk:TypeId->Nat:=fun _=>0
 specs:FuncId->List Spec
 nt:Nat
 ks:List Nat
 pz:TypeId->Bool:=fun _=>false
 st:Nat:=0
 inl:FuncId->Option (Nat->AVs->Acc (AV×ZaN)):=fun _=>none
def Env.stp(E:Env):Nat:=E.st+64
def ZcA(n:Nat):List Nat->Bool
 | []=>false
 |k::l=>Va n k||ZcA n l
def Zcy:List Nat->Bool
 | []=>true
 |n::l=> !ZcA n l&&Zcy l
def Zb7:List Nat->List Nat->Bool
 | [],_=>true
 |n::l,m=> !ZcA n m&&Zb7 l m
def Ids.ok(i:Ids)(fz:List Nat):Bool:=Zcy i.tk&&Zb7 i.br i.tk&&Zb7 i.tk fz
def Ty.flat:Ty->Bool
 | .sl _=>false
 | .ref=>false
 | .prod a b=>a.flat&&b.flat
 | .arr _ t=>t.flat
 |_=>true
mutual
def Pat.flat:Pat->Bool
 | .pd t=>t.flat
 | .own t _=>t.flat
 | .var _ p=>p.flat
 | .ro _=>false
 | .map kt vt=>kt.flat&&vt.flat
 | .rows t _=>t.flat
 | .mrows kt t=>kt.flat&&t.flat
 | .it kt vt=>kt.flat&&vt.flat
 | .bld _ _ _=>true
 | .agg l=>l.flat
 | .fn _ l=>l.flat
 | .nilr=>true
 | .nils=>true
 | .any=>true
def ZaS.flat:ZaS->Bool
 | .nil=>true
 | .cons p l=>p.flat&&l.flat
end
mutual
def Pat.oflat:Pat->Bool
 | .own t k=> !k||t.flat
 | .var _ p=>p.flat
 | .map kt vt=>kt.flat&&vt.flat
 | .rows t k=> !k||t.flat
 | .mrows kt t=>kt.flat&&t.flat
 | .agg l=>l.oflat
 | .fn _ l=>l.oflat
 |_=>true
def ZaS.oflat:ZaS->Bool
 | .nil=>true
 | .cons p l=>p.oflat&&l.oflat
end
mutual
def Pat.sz:Pat->Nat
 | .pd t=>t.size
 | .agg l=>l.sz
 |_=>1
def ZaS.sz:ZaS->Nat
 | .nil=>0
 | .cons p l=>p.sz+l.sz
end
mutual
def Pat.noAny:Pat->Bool
 | .any=>false
 | .var _ p=>p.noAny
 | .agg l=>l.noAny
 | .fn _ l=>l.noAny
 |_=>true
def ZaS.noAny:ZaS->Bool
 | .nil=>true
 | .cons p l=>p.noAny&&l.noAny
end
def ZaS.wf:ZaS->Bool
 | .nil=>true
 | .cons .any l=>l.wf
 | .cons p l=>p.noAny&&l.wf
def AVs.ofList:List AV->AVs
 | []=> .nil
 |v::l=> .cons v (AVs.ofList l)
def AVs.app:AVs->AVs->AVs
 | .nil,m=>m
 | .cons v l,m=> .cons v (l.app m)
def AVs.nth:AVs->Nat->Option AV
 | .nil,_=>none
 | .cons v _,0=>some v
 | .cons _ l,n+1=>l.nth n
def Zla:AVs->List FuncId
 | .nil=>[]
 | .cons (.fn f _) l=>f::Zla l
 | .cons _ l=>Zla l
def Zl1:AVs->AV
 | .cons v .nil=>v
 |l=> .tup l
def ZaK:Nat:=64
def Zjn(n:Nat):List Nat->Acc Unit
 | []=> .ret ()
 |id::l=> .getH id fun
  |some (.rows _ _ v _)=>bif Vd v n then Zjn n l else .fail
  |some (.mrows _ _ _ v _)=>bif Vd v n then Zjn n l else .fail
  |_=>Zjn n l
def Zgy:List Nat->Acc ZaN
 | []=> .ret []
 |id::l=> .getH id fun
  |some (.vec t xs)=>(Zgy l).bind fun p=> .ret ((id,some (.dat t xs))::p)
  |some (.rows t xs _ none)=>(Zgy l).bind fun p=> .ret ((id,some (.dat (.sl t) xs))::p)
  |_=>Zgy l
def Zgq(S:Spec)(nid:Nat)(avs:AVs):Acc (AV×ZaN):=
 (Zdt S.args avs).bind fun r=>
  .opt (Zar (r.2.ok [])) fun _=>(Zjn nid r.2.tk).bind fun _=>(bif S.res.flat&&S.args.oflat then .ret [] else Zgy r.2.br).bind fun ds=>
   .opt (S.f r.1) fun z=>
    let y:=S.unp z
    let p:=Zbk S.args avs y.1 nid
    let q:=Zbj S.res y.2 p.2
    .opt (Zar (Ve q.2.2 (nid+ZaK))) fun _=> .ret (Zl1 q.1,(r.2.tk.map fun id=>(id,none))++(bif S.res.flat&&S.args.oflat then [] else r.2.br.map fun id=>(id,none))++p.1++(q.2.1.map fun o=>(o.1,some o.2))++ds)
def ZfG(id:Nat):ZaN->Option (Option Zcv)
 | []=>none
 |p::l=>match ZfG id l with
  |some o=>some o
  |none=>bif Va p.1 id then some p.2 else none
def AVs.putNth:AVs->Nat->AV->AVs
 | .nil,_,_=> .nil
 | .cons _ l,0,v=> .cons v l
 | .cons u l,n+1,v=> .cons u (l.putNth n v)
def Zmy:Ty->Nat->Nat
 | .prod a b,n+1=>a.size+Zmy b n
 |_,_=>0
def ZmY(avs:AVs)(k:Nat×Nat×Nat)(p:ZaN):Acc ZaN:=
 match avs.nth k.1 with
 |some (.ptr sid [])=> .getH sid fun
  |some (.var T (.agg c))=>(match c.nth k.2.1 with
   |some (.vw oid)=> .getH oid fun
    |some (.vec t _)=>(match ZfG sid p with
     |some (some (.var T' (.agg c')))=>(match c'.nth k.2.1 with
      |some (.vw nid)=>(match ZfG nid p with
       |some (some (.vec t' xs))=>bif t' ==t&&T' ==T&&Va (Zmy T k.2.1) k.2.2&& !Va nid sid&& !Va oid sid then .ret (p++[(nid,none),(sid,none),(oid,some (.vec t' xs)),(sid,some (.var T' (.agg (c'.putNth k.2.1 (.vw oid)))))]) else .fail
       |_=> .fail)
      |_=> .fail)
     |_=> .fail)
    |_=> .fail
   |_=> .fail)
  |_=> .fail
 |_=> .fail
def Zfl(avs:AVs):List (Nat×Nat×Nat)->ZaN->Acc ZaN
 | [],p=> .ret p
 |k::l,p=>(ZmY avs k p).bind fun q=>Zfl avs l q
def ZeG(S:Spec)(nid:Nat)(avs:AVs):Acc (AV×ZaN):=
 (Zgq S nid avs).bind fun r=>(Zfl avs S.kp r.2).bind fun p=> .ret (r.1,p)
def Zdb(nid:Nat)(avs:AVs):List Spec->Acc (AV×ZaN)
 | []=> .fail
 | [S]=>ZeG S nid avs
 |S::l=>(Zdt S.args avs).bind fun r=> .bool (S.f r.1).isSome fun b=>bif b then ZeG S nid avs else Zdb nid avs l
def ZbK(fns:List FuncId):List Spec->List Spec
 | []=>[]
 |S::l=>bif S.fns==fns then S::ZbK fns l else ZbK fns l
def Zh3:Value->AV
 | .bool b=> .d .bool b
 | .int k n=> .d (.int k) n
 | .string s=> .d .str s.data.toList
 | .pointer none=> .nilr
 | .nilFunc=> .nilr
 | .map none=> .nilr
 | .slice none 0 0=> .nils
 |_=> .junk
def aev(F:Nat->AV):Operand->AV
 | .tmp t=>F t
 | .const v=>Zh3 v
 | .global _=> .junk
 | .func f=> .fn f .nil
def Zol(k:IntKind)(x y:Int):Option Int:=if y=0 then none else some (k.wrap (x.tdiv y))
def Zon(x y:Int):Option Int:=if y=0 then none else some (x.tmod y)
def Zn4(k:IntKind)(x y:Int):Option Int:=if y<0 then none else some (k.wrap (x*2 ^ (min y.toNat k.bits)))
def Zob(k:IntKind)(x y:Int):Option Int:=if y<0 then none else some (x.fdiv (2 ^ (min y.toNat k.bits)))
def Zn7(k:IntKind)(x y:Int):Int:=k.wrap (Vb k.bits x &&& Vb k.bits y).toNat
def qor(k:IntKind)(x y:Int):Int:=k.wrap (Vb k.bits x ||| Vb k.bits y).toNat
def Zpc(k:IntKind)(x y:Int):Int:=k.wrap (Vb k.bits x ^^^ Vb k.bits y).toNat
def qandNot(k:IntKind)(x y:Int):Int:=k.wrap (Vb k.bits x &&& ~~~ Vb k.bits y).toNat
def Zpp(x y:Int):Int:=if y<x then y else x
def imax(x y:Int):Int:=if x<y then y else x
def Zng(op:BinOp)(k:IntKind)(x y:Int):Acc AV:=
 match op with
 | .add=> .ret (.d (.int k) (k.wrap (x+y)))
 | .sub=> .ret (.d (.int k) (k.wrap (x - y)))
 | .mul=> .ret (.d (.int k) (k.wrap (x*y)))
 | .quo=> .opt (Zol k x y) fun z=> .ret (.d (.int k) z)
 | .rem=> .opt (Zon x y) fun z=> .ret (.d (.int k) z)
 | .and=> .ret (.d (.int k) (Zn7 k x y))
 | .or=> .ret (.d (.int k) (qor k x y))
 | .xor=> .ret (.d (.int k) (Zpc k x y))
 | .andNot=> .ret (.d (.int k) (qandNot k x y))
 | .shl=> .opt (Zn4 k x y) fun z=> .ret (.d (.int k) z)
 | .shr=> .opt (Zob k x y) fun z=> .ret (.d (.int k) z)
 | .eql=> .ret (.d .bool (decide (x=y)))
 | .neq=> .ret (.d .bool (!decide (x=y)))
 | .lss=> .ret (.d .bool (decide (x<y)))
 | .leq=> .ret (.d .bool (decide (x<=y)))
 | .gtr=> .ret (.d .bool (decide (y<x)))
 | .geq=> .ret (.d .bool (decide (y<=x)))
def catStr(x y:List UInt8):Option (List UInt8):=bif decide (x.length+y.length<2 ^ 62) then some (x++y) else none
def Zoz(op:BinOp)(x y:List UInt8):Acc AV:=
 match op with
 | .add=> .opt (catStr x y) fun z=> .ret (.d .str z)
 | .eql=> .ret (.d .bool (decide (x=y)))
 | .neq=> .ret (.d .bool (!decide (x=y)))
 | .lss=> .ret (.d .bool (Op.bytesLess x y))
 | .gtr=> .ret (.d .bool (!(Op.bytesLess x y||decide (x=y))))
 | .leq=> .ret (.d .bool (Op.bytesLess x y||decide (x=y)))
 | .geq=> .ret (.d .bool (!Op.bytesLess x y))
 |_=> .fail
def ZlA:AV->Bool
 | .dp _ _=>true
 | .ptr _ _=>true
 | .vp _ _ _=>true
 | .np _ _ _ _ _ _=>true
 | .mp _=>true
 | .fn _ _=>true
 |_=>false
def Zoq(θ:TypeId->Option Ty)(T:TypeId)(op:BinOp)(x y:AV):Acc AV:=
 match x,y with
 | .d (.int k) a, .d (.int k') b=>(match op with
  | .shl=>Zng .shl k a b
  | .shr=>Zng .shr k a b
  |op=>bif k==k' then Zng op k a b else .fail)
 | .d .str a, .d .str b=>Zoz op a b
 | .d t a, .d t' b=>(match op with
  | .eql=>bif θ T==some t&&Ve t.dep 100 then .opt (Zay t' t b) fun b=> .opt (eqEl t a b) fun r=> .ret (.d .bool r) else .fail
  | .neq=>bif θ T==some t&&Ve t.dep 100 then .opt (Zay t' t b) fun b=> .opt (eqEl t a b) fun r=> .ret (.d .bool (!r)) else .fail
  |_=> .fail)
 |_,_=> .fail
def ZiQ(k:Nat)(v:AV)(y:Operand):Bool:=match y with
 | .const (.pointer none)=>Va k 1&& (match v with| .ptr _ _=>true|_=>false)
 | .const .nilFunc=>Va k 2&& (match v with| .fn _ _=>true|_=>false)
 | .const (.map none)=>Va k 3&& (match v with| .mp _=>true|_=>false)
 |_=>false
def aun(op:UnOp)(x:AV):Acc AV:=
 match op,x with
 | .not, .d .bool b=> .ret (.d .bool (!b))
 | .neg, .d (.int k) n=> .ret (.d (.int k) (k.wrap (0 - n)))
 |_,_=> .fail
def zeroEl: (t:Ty)->El t
 | .int _=>(0:Int)
 | .bool=>false
 | .str=>([]:List UInt8)
 | .sl t=>([]:List (El t))
 | .unit=>()
 | .prod a b=>(zeroEl a,zeroEl b)
 | .arr n t=>Vc n (zeroEl t)
 | .ref=>()
def Ty.data:Ty->Bool
 | .ref=>false
 | .sl t=>t.data
 | .prod a b=>a.data&&b.data
 | .arr _ t=>t.data
 |_=>true
def ZlR:Ty->AV
 | .ref=> .nilr
 | .sl _=> .nils
 |a=> .jk a.size
def Ty.isSl:Ty->Bool
 | .sl _=>true
 |_=>false
def ZdT(z:Bool)(a:Ty):AV:=bif a.data&& (z|| !a.isSl) then .d a (zeroEl a) else ZlR a
def ZbZ(z:Bool):Ty->AVs
 | .prod a b=> .cons (ZdT z a) (ZbZ z b)
 |_=> .nil
def Zbz(t:Ty):AV:=
 bif t.data&& !t.isSl then .d t (zeroEl t) else match t with
  | .ref=> .nilr
  | .sl _=> .nils
  | .prod a b=> .agg (ZbZ false (.prod a b))
  |t=> .jk t.size
def Zfz(x:Bool)(t:Ty):AV:=bif x then(match t with
 | .prod a b=> .agg (ZbZ false (.prod a b))
 |t=>Zbz t) else Zbz t
def Zco(z:Bool)(parts:List (Nat×AV)):Ty->Nat->AVs
 | .prod a b,n=> .cons ((parts.lookup n).getD (ZdT z a)) (Zco z parts b (n+1))
 |_,_=> .nil
def Zfs:AVs->Option DV
 | .nil=>some ⟨.unit,()⟩
 | .cons (.d t x) l=>match Zfs l with
  |some ⟨u,y⟩=>some ⟨.prod t u,(x,y)⟩
  |none=>none
 |_=>none
def Zft(l:AVs):AV:=match Zfs l with
 |some ⟨t,x⟩=> .d t x
 |none=> .agg l
def Zb9(t:Ty)(parts:List (Nat×AV)):Nat->Nat->Option (List (El t))
 |0,_=>some []
 |m+1,n=>match (parts.lookup n).getD (.d t (zeroEl t)) with
  | .d t' x=>(Zay t' t x).bind fun y=>(Zb9 t parts m (n+1)).bind fun l=>some (y::l)
  |_=>none
def Zfq(e:Ty):List (Nat×AV)->Acc (List (Nat×AV) ×List Nat)
 | []=> .ret ([],[])
 |p::l=>(ZaD e p.2).bind fun x=>(Zfq e l).bind fun r=> .ret ((p.1, .d e x.1)::r.1,x.2++r.2)
def fieldsOf:Ty->Nat
 | .prod _ b=>fieldsOf b+1
 |_=>0
def Ty.isStruct:Ty->Bool
 | .prod _ _=>true
 | .unit=>true
 |_=>false
def Zaz:Nat:=2 ^ 39
def ZoM(t:Ty)(nid:Nat)(s x:AV):Acc (AV×ZaN):=
 (Zbe t s).bind fun r=>(ZgC t x).bind fun y=>
  .opt (Zar (decide (r.1.length+y.1.length<=Zaz))) fun _=>
   .ret (.vw nid,(r.2.map fun id=>(id,none))++[(nid,some (.vec t (r.1++y.1)))])
def ZnV(t:Ty)(nid:Nat)(n:Int):Acc (AV×ZaN):=
 .opt (Zar (decide (1<=n/\n<=(Zaz:Int)))) fun _=> .ret (.vw nid,[(nid,some (.vec t (Vc n.toNat (zeroEl t))))])
def ZnB(t:Ty)(d s:AV):Acc (AV×ZaN):=
 match d with
 | .vw id=> .getH id fun
  |some (.vec t' xs)=> .opt (Zay (.sl t') (.sl t) xs) fun xs=>(ZgC t s).bind fun y=>
    .ret (.d (.int .i64) ((min y.1.length xs.length:Nat):Int),[(id,some (.vec t (y.1.take (min y.1.length xs.length)++xs.drop (min y.1.length xs.length))))])
  |_=> .fail
 | .vs id lo n=> .getH id fun
  |some (.vec t' xs)=> .opt (Zay (.sl t') (.sl t) xs) fun xs=> .opt (Zar (Ve (lo+n) xs.length)) fun _=>(ZgC t s).bind fun y=>
    .ret (.d (.int .i64) ((min y.1.length n:Nat):Int),[(id,some (.vec t (xs.take lo++y.1.take (min y.1.length n)++xs.drop (lo+min y.1.length n))))])
  |_=> .fail
 |_=> .fail
def Zid(id nid:Nat)(kt:Ty)(k:El kt):Acc Zcv:=
 .getH id fun
  |some (.rows t xs v none)=>bif Vd v nid then .opt (Zay kt (.int .i64) k) fun i=> .ret (.rows t xs nid (some i.toNat)) else .fail
  |some (.mrows kt' t m v none)=>bif Vd v nid then .opt (Zay kt kt' k) fun k' => .ret (.mrows kt' t m nid (some k')) else .fail
  |_=> .fail
def Zkj(id:Nat)(kt:Ty)(k:El kt)(t:Ty)(row:List (El t)):Acc Zcv:=
 .getH id fun
  |some (.rows t' xs v none)=> .opt (Zay kt (.int .i64) k) fun i=> .opt (Zay (.sl t) (.sl t') row) fun y=> .ret (.rows t' (xs.set i.toNat y) v none)
  |some (.mrows kt' t' m v none)=> .opt (Zay kt kt' k) fun k' => .opt (Zay (.sl t) (.sl t') row) fun y=> .ret (.mrows kt' t' (Zbd (Zat kt') k' y m) v none)
  |_=> .fail
def ZnY(t:Ty)(nid id ver:Nat)(kt:Ty)(k:El kt)(x:AV):Acc (AV×ZaN):=
 (Zb8 id ver kt k).bind fun r=> .opt (Zay (.sl r.1) (.sl t) r.2) fun xs=>(ZgC t x).bind fun y=>
  .opt (Zar (decide (xs.length+y.1.length<=Zaz))) fun _=> .opt (Zar (!ZcA id y.2)) fun _=>(Zid id nid kt k).bind fun o=>
   .ret (.vw nid,[(id,some o),(nid,some (.vec t (xs++y.1)))])
def ZnP(t:Ty)(nid:Nat)(s x:AV):Acc (AV×ZaN):=
 (Zb5 t s).bind fun r=>(Zb5 t x).bind fun y=>
  .opt (Zar (decide (r.1.length+y.1.length<=Zaz))) fun _=> .opt (Zar (Zcy (r.2++y.2))) fun _=>
   .ret (.vw nid,((r.2++y.2).map fun id=>(id,none))++[(nid,some (.rows t (r.1++y.1) 0 none))])
def Zc5(t:Ty)(parts:List (Nat×AV)):Nat->Nat->Acc (List (List (El t)) ×List Nat)
 |0,_=> .ret ([],[])
 |m+1,n=>(Zbe t ((parts.lookup n).getD .nils)).bind fun x=>(Zc5 t parts m (n+1)).bind fun y=> .ret (x.1::y.1,x.2++y.2)
def Zmz(h:Option Nat)(i:Nat):Bool:=match h with
 |none=>true
 |some j=>Va j i
def holeK(kt:Ty)(h:Option (El kt))(k:El kt):Bool:=match h with
 |none=>true
 |some j=>Zat kt j k
def ZcM:Option Ty->Bool
 |some (.sl _)=>true
 |_=>false
def ZoO(t:Option Ty)(mp:Bool)(v:AV):Acc AV:=
 match v with
 | .d (.sl _) xs=>bif ZcM t then .ret (.d (.int .i64) (xs.length:Int)) else .fail
 | .d .str xs=>bif t==some .str then .ret (.d (.int .i64) (xs.length:Int)) else .fail
 | .nils=>bif ZcM t then .ret (.d (.int .i64) (0:Int)) else .fail
 | .vs _ _ n=>bif ZcM t then .ret (.d (.int .i64) (n:Int)) else .fail
 | .vw id=>bif ZcM t then .getH id fun
  |some (.vec _ xs)=> .ret (.d (.int .i64) (xs.length:Int))
  |some (.rows _ xs _ _)=> .ret (.d (.int .i64) (xs.length:Int))
  |some (.dat _ xs)=> .ret (.d (.int .i64) (xs.length:Int))
  |_=> .fail else .fail
 | .nw id ver kt k=>bif ZcM t then(Zb8 id ver kt k).bind fun r=> .ret (.d (.int .i64) (r.2.length:Int)) else .fail
 | .mp id=>bif mp then .getH id fun
  |some (.map _ _ m)=> .ret (.d (.int .i64) (m.length:Int))
  |_=> .fail else .fail
 |_=> .fail
def Zb2(n:Nat):List Nat->Bool
 | []=>true
 |i::l=>Ve (i+1) n&& !(l.contains i) &&Zb2 n l
def Zjk(f:Int->Int->Int)(k:IntKind):Int->List AV->Acc AV
 |a,[]=> .ret (.d (.int k) a)
 |a, .d (.int k') b::l=>bif k' ==k then Zjk f k (f a b) l else .fail
 |_,_=> .fail
def AV.solid:AV->Bool
 | .jk _=>false
 |_=>true
def ZaY(v:AV):Option Int:=match v with
 | .d (.int _) n=>some n
 |_=>none
def sliceB(len cap:Nat)(lo hi:Option Int):Option (Nat×Nat):=
 let h:Option Nat:=match hi with|some x=>if 0<=x/\x<=cap then some x.toNat else none|none=>some len
 h.bind fun h=>match lo with
  |some x=>if 0<=x/\x<=h then some (x.toNat,h) else none
  |none=>some (0,h)
def Zba(ev:Operand->AV):Option Operand->Bool
 |some x=>(ZaY (ev x)).isSome
 |none=>true
def ZjU:AV->Option Nat
 | .d t _=>some t.size
 | .dp _ _=>some 1
 | .ptr _ _=>some 1
 | .vp _ _ _=>some 1
 | .mp _=>some 1
 | .fn _ _=>some 1
 | .nilr=>some 1
 | .nils=>some 1
 | .vw _=>some 1
 | .vs _ _ _=>some 1
 | .nw _ _ _ _=>some 1
 | .np _ _ _ _ _ _=>some 1
 |_=>none
def Zhu(v:AV):Bool:= !v.isAgg&& (match ZjU v with
 |some n=>Va n 1
 |none=>false)
def Zey:AVs->Bool
 | .nil=>true
 | .cons v l=>Zhu v&&Zey l
def ZfS:List AV->Bool
 | []=>true
 | .tup _::_=>false
 |_::l=>ZfS l
def ZaR(E:Env)(nid:Nat)(op:Op)(_rt:TypeId)(ev:Operand->AV):Acc (AV×ZaN):=
 match op with
 | .move x=> .ret (ev x,[])
 | .assign x=> .ret (ev x,[])
 | .pick c a b=>(match ev c with
  | .d .bool t=> .bool t fun t=> .ret (bif t then ev a else ev b,[])
  |_=> .fail)
 | .alloc T=>(match E.bd T with
  |some e=> .ret (.ptr nid [],[(nid,some (.bld T e []))])
  |none=> .opt (E.ty T) fun t=> .ret (.ptr nid [],[(nid,some (.var t (Zfz (E.zx T) t)))]))
 | .box T x=> .opt (E.ty T) fun t=>bif (ev x).fits t then .ret (.ptr nid [],[(nid,some (.var t (ev x)))]) else .fail
 | .build T ps=> .opt (E.ty T) fun t=>(match t with
  | .prod a b=>bif !Zb2 (fieldsOf (.prod a b)) (ps.toList.map (·.1)) then .fail else let l:=Zco (Ty.data (.prod a b) && !E.zx T) (ps.toList.map fun p=>(p.1,ev p.2)) (.prod a b) 0;bif l.fits (.prod a b) then(bif E.rw T then(ZaD (.prod a b) (Zft l)).bind fun r=> .ret (.d (.prod a b) r.1,r.2.map fun id=>(id,none)) else .ret (Zft l,[])) else .fail
  | .arr n e=>bif !Zb2 n (ps.toList.map (·.1)) || !e.data then .fail else .opt (Zb9 e (ps.toList.map fun p=>(p.1,ev p.2)) n 0) fun l=> .ret (.d (.arr n e) l,[])
  |_=> .fail)
 | .buildSlice T n ps=> .opt (E.ty T) fun t=>(match t with
  | .sl e=>bif E.rw T then(match e with
    | .sl e' =>bif !Zb2 n (ps.toList.map (·.1)) ||Vd (2 ^ 24) n then .fail else(Zc5 e' (ps.toList.map fun p=>(p.1,ev p.2)) n 0).bind fun r=> .opt (Zar (Zcy r.2)) fun _=> .ret (.vw nid,(r.2.map fun id=>(id,none))++[(nid,some (.rows e' r.1 0 none))])
    |_=> .fail) else bif !Zb2 n (ps.toList.map (·.1)) || !e.data||Vd (2 ^ 24) (n*e.size) then .fail else(Zfq e (ps.toList.map fun p=>(p.1,ev p.2))).bind fun r=> .opt (Zb9 e r.1 n 0) fun l=>(Zgy r.2).bind fun ds=> .ret (.vw nid,(r.2.map fun id=>(id,none))++[(nid,some (.vec e l))]++ds)
  |_=> .fail)
 | .load T a=> .opt (E.ty T) fun t=>(match ev a with
  | .dp t' x=>bif t' ==t then .ret (.d t' x,[]) else .fail
  | .ptr id p=> .getH id fun
   |some (.var _ c)=>(Ze3 c p).bind fun v=>bif v.fits t&&v.solid then .ret (v,[]) else .fail
   |_=> .fail
  | .vp id i p=> .getH id fun
   |some (.vec _ xs)=> .opt xs[i]? fun x=>(Zds _ x p).bind fun v=>bif v.1==t then .ret (.d v.1 v.2,[]) else .fail
   |some (.rows t0 xs v none)=>bif p.isEmpty&&t== .sl t0 then .opt xs[i]? fun _=> .ret (.nw id v (.int .i64) (i:Int),[]) else .fail
   |_=> .fail
  | .np id ver kt k i p=>(Zb8 id ver kt k).bind fun r=> .opt r.2[i]? fun x=>(Zds _ x p).bind fun v=>bif v.1==t then .ret (.d v.1 v.2,[]) else .fail
  |_=> .fail)
 | .store T a x=> .opt (E.ty T) fun t=>bif (ev x).fits t then(match ev a with
  | .ptr id p=> .getH id fun
   |some (.var t0 c)=>(ZjL t0 c p (ev x)).bind fun c' => .ret (.junk,[(id,some (.var t0 c'))])
   |_=> .fail
  | .vp id i p=> .getH id fun
   |some (.vec t0 xs)=> .opt xs[i]? fun e=> .opt (ev x).dv? fun y=>(ZcC t0 e p y).bind fun e' => .ret (.junk,[(id,some (.vec t0 (xs.set i e')))])
   |some (.rows t0 xs v h)=>bif p.isEmpty&&t== .sl t0&&Vd v nid then .opt (Zar (Zmz h i)) fun _=> .opt xs[i]? fun _=>(Zbe t0 (ev x)).bind fun r=> .ret (.junk,(r.2.map fun id=>(id,none))++[(id,some (.rows t0 (xs.set i r.1) nid none))]) else .fail
   |_=> .fail
  | .np id ver kt k i p=>(Zb8 id ver kt k).bind fun r=> .opt r.2[i]? fun e=> .opt (ev x).dv? fun y=>(ZcC r.1 e p y).bind fun e' =>(Zkj id kt k r.1 (r.2.set i e')).bind fun o=> .ret (.junk,[(id,some o)])
  |_=> .fail) else .fail
 | .nilCheck x=>bif ZlA (ev x) then .ret (ev x,[]) else .fail
 | .binOp op T x y _=>bif ZiQ (E.pk T) (ev x) y then(match op with
   | .eql=> .ret (.d .bool false,[])
   | .neq=> .ret (.d .bool true,[])
   |_=> .fail) else(Zoq E.ty T op (ev x) (ev y)).bind fun v=> .ret (v,[])
 | .unOp op _ x=>(aun op (ev x)).bind fun v=> .ret (v,[])
 | .convert S T x=> .opt (E.ty S) fun s=> .opt (E.ty T) fun t=>(match t,ev x with
  | .int k, .d (.int _) n=> .ret (.d (.int k) (k.wrap n),[])
  | .str, .d .str s=> .ret (.d .str s,[])
  | .str,v=>bif s== .sl (.int .u8) then(ZgC (.int .u8) v).bind fun r=> .ret (.d .str (ZgQ r.1),[]) else .fail
  |_,_=> .fail)
 | .makeFunc (.func f) first caps=>bif first.isEmpty&&Zey (AVs.ofList (caps.toList.map ev)) then .ret (.fn f (AVs.ofList (caps.toList.map ev)),[]) else .fail
 | .makeMap T r=> .opt (E.mty T) fun m=>bif E.rw T then(match m with
   | (kt, .sl t)=>bif kt.keyOk&& (match r with|none=>true|some x=>(ZaY (ev x)).isSome) then .ret (.mp nid,[(nid,some (.mrows kt t [] 0 none))]) else .fail
   |_=> .fail) else bif m.1.keyOk&& (match r with|none=>true|some x=>(ZaY (ev x)).isSome) then .ret (.mp nid,[(nid,some (.map m.1 m.2 []))]) else .fail
 | .makeSlice T l c=> .opt (E.ty T) fun t=>(match t,ev l,ev c with
  | .sl e, .d (.int _) n, .d (.int _) m=>bif E.rw T then(match e with
    | .sl e' => .opt (Zar (decide (0<=n/\n<=m/\m<=Zaz))) fun _=> .ret (.vw nid,[(nid,some (.rows e' (Vc n.toNat []) 0 none))])
    |_=> .fail) else bif !e.data then .fail else .opt (Zar (decide (0<=n/\n<=m/\m<=Zaz))) fun _=> .ret (.vw nid,[(nid,some (.vec e (Vc n.toNat (zeroEl e))))])
  |_,_,_=> .fail)
 | .slice T x lo hi none=>bif !(Zba ev lo&&Zba ev hi) then .fail else(match ev x with
  | .d (.sl t) xs=>bif !(E.ty T==some (.sl t)) then .fail else .opt (sliceB xs.length xs.length (lo.bind fun o=>ZaY (ev o)) (hi.bind fun o=>ZaY (ev o))) fun r=> .ret (.d (.sl t) ((xs.drop r.1).take (r.2 - r.1)),[])
  | .d .str xs=>bif !(E.ty T==some .str) then .fail else .opt (sliceB xs.length xs.length (lo.bind fun o=>ZaY (ev o)) (hi.bind fun o=>ZaY (ev o))) fun r=> .ret (.d .str ((xs.drop r.1).take (r.2 - r.1)),[])
  | .nils=>(match E.ty T with
   |some (.sl _)=> .opt (sliceB 0 0 (lo.bind fun o=>ZaY (ev o)) (hi.bind fun o=>ZaY (ev o))) fun _=> .ret (.nils,[])
   |_=> .fail)
  | .vw id=> .getH id fun
   |some (.vec t xs)=>bif !(E.ty T==some (.sl t)) then .fail else .opt (sliceB xs.length xs.length (lo.bind fun o=>ZaY (ev o)) (hi.bind fun o=>ZaY (ev o))) fun r=>(match lo with|none=> .ret (.vs id 0 r.2,[]) |some _=> .ret (.vs id r.1 (r.2 - r.1),[]))
   |some (.dat t xs)=>bif !(E.ty T==some (.sl t)) then .fail else .opt (sliceB xs.length xs.length (lo.bind fun o=>ZaY (ev o)) (hi.bind fun o=>ZaY (ev o))) fun r=> .ret (.d (.sl t) ((xs.drop r.1).take (r.2 - r.1)),[])
   |_=> .fail
  |_=> .fail)
 | .slice T x lo (some hi) (some mx)=>bif !(Zba ev lo&&Zba ev (some hi)) then .fail else(match ev x with
  | .vw id=> .getH id fun
   |some (.vec t xs)=>bif !(E.ty T==some (.sl t)) then .fail else .opt (ZaY (ev mx)) fun m=> .opt (inb m (xs.length+1)) fun m=> .opt (sliceB xs.length m (lo.bind fun o=>ZaY (ev o)) (ZaY (ev hi))) fun r=>(match lo with|none=> .ret (.vs id 0 r.2,[]) |some _=> .ret (.vs id r.1 (r.2 - r.1),[]))
   |_=> .fail
  |_=> .fail)
 | .fieldAddr T x f=> .opt (E.ty T) fun t=> .opt (Za3 t [f]) fun r=>bif Va r.2.size 0|| !t.isStruct then .fail else(match ev x with
  | .dp t' y=>bif t' ==t then(Zds t' y [f]).bind fun v=> .ret (.dp v.1 v.2,[]) else .fail
  | .ptr id p=> .getH id fun
   |some (.var t0 _)=> .opt (Zmo t0 p) fun q=>bif q==t then .ret (.ptr id (p++[f]),[]) else .fail
   |_=> .fail
  | .vp id i p=> .getH id fun
   |some (.vec t0 _)=> .opt (Za3 t0 p) fun q=>bif q.2==t then .ret (.vp id i (p++[f]),[]) else .fail
   |_=> .fail
  | .np id ver kt k i p=>(Zb8 id ver kt k).bind fun s=> .opt (Za3 s.1 p) fun q=>bif q.2==t then .ret (.np id ver kt k i (p++[f]),[]) else .fail
  |_=> .fail)
 | .field T x f=> .opt (E.ty T) fun t=> .opt (Za3 t [f]) fun r=>bif !t.isStruct|| !(ev x).fits t|| !(ev x).solid then .fail else(Ze3 (ev x) [f]).bind fun v=>bif v.fits r.2&&v.solid then .ret (v,[]) else .fail
 | .indexAddr T x i=> .opt (E.ty T) fun T' =>(match ev x,ev i with
  | .d (.sl t) xs, .d (.int _) n=>bif T' == .sl t then .opt (idx xs n) fun y=> .ret (.dp t y,[]) else .fail
  | .vw id, .d (.int _) n=> .getH id fun
   |some (.vec t xs)=>bif T' == .sl t then .opt (inb n xs.length) fun j=> .ret (.vp id j [],[]) else .fail
   |some (.rows t xs _ _)=>bif T' == .sl (.sl t) then .opt (inb n xs.length) fun j=> .ret (.vp id j [],[]) else .fail
   |some (.dat t xs)=>bif T' == .sl t then .opt (idx xs n) fun y=> .ret (.dp t y,[]) else .fail
   |_=> .fail
  | .nw id ver kt k, .d (.int _) n=>(Zb8 id ver kt k).bind fun r=>bif T' == .sl r.1 then .opt (inb n r.2.length) fun j=> .ret (.np id ver kt k j [],[]) else .fail
  | .vs id lo m, .d (.int _) n=> .getH id fun
   |some (.vec t xs)=>bif T' == .sl t then .opt (Zar (decide (lo+m<=xs.length))) fun _=> .opt (inb n m) fun j=> .ret (.vp id (lo+j) [],[]) else .fail
   |_=> .fail
  | .dp (.arr m t) xs, .d (.int _) n=>bif T' == .arr m t then .opt (idx xs n) fun y=> .ret (.dp t y,[]) else .fail
  | .ptr id p, .d (.int _) n=> .getH id fun
   |some (.var t0 _)=> .opt (Za3 t0 p) fun q=>(match q.2 with
    | .arr m t=>bif T' == .arr m t then .opt (inb n m) fun j=> .ret (.ptr id (p++[j]),[]) else .fail
    |_=> .fail)
   |_=> .fail
  |_,_=> .fail)
 | .index T x i=> .opt (E.ty T) fun T' =>(match ev x,ev i with
  | .d (.arr m t) xs, .d (.int _) n=>bif T' == .arr m t&& !Va t.size 0 then .opt (idx xs n) fun y=> .ret (.d t y,[]) else .fail
  | .d .str xs, .d (.int _) n=>bif T' == .str then .opt (idx xs n) fun y=> .ret (.d (.int .u8) (y.toNat:Int),[]) else .fail
  |_,_=> .fail)
 | .lookup T m k ok=> .opt (E.mty T) fun mt=>(match ev m,ev k with
  | .mp id, .d kt x=> .getH id fun
   |some (.map kt' vt es)=>bif kt'.keyOk&&mt.1==kt' &&mt.2==vt&&vt.data then .opt (Zay kt kt' x) fun y=>
     .ret (bif ok then .tup (.cons (.d vt ((Za1 (Zat kt') y es).getD (zeroEl vt))) (.cons (.d .bool (Za1 (Zat kt') y es).isSome) .nil)) else .d vt ((Za1 (Zat kt') y es).getD (zeroEl vt)),[]) else .fail
   |some (.mrows kt' t m v none)=>bif kt'.keyOk&&mt.1==kt' &&mt.2== .sl t then .opt (Zay kt kt' x) fun y=>
     .ret (bif ok then .tup (.cons (.nw id v kt' y) (.cons (.d .bool (Za1 (Zat kt') y m).isSome) .nil)) else .nw id v kt' y,[]) else .fail
   |_=> .fail
  |_,_=> .fail)
 | .mapUpdate T m k v=> .opt (E.mty T) fun mt=>(match ev m,ev k,ev v with
  | .mp id, .d kt x, .d vt z=> .getH id fun
   |some (.map kt' vt' es)=>bif kt'.keyOk&&mt.1==kt' then .opt (Zay kt kt' x) fun y=> .opt (Zay vt vt' z) fun u=> .ret (.junk,[(id,some (.map kt' vt' (Zbd (Zat kt') y u es)))]) else .fail
   |_=> .fail
  | .mp id, .d kt x, .vw i2=> .getH id fun
   |some (.mrows kt' t es u h)=>bif kt'.keyOk&&mt.1==kt' &&mt.2== .sl t&&Vd u nid then .opt (Zay kt kt' x) fun y=> .opt (Zar (holeK kt' h y)) fun _=>(Zbe t (.vw i2)).bind fun r=>
     .ret (.junk,(r.2.map fun id=>(id,none))++[(id,some (.mrows kt' t (Zbd (Zat kt') y r.1 es) nid none))]) else .fail
   |_=> .fail
  |_,_,_=> .fail)
 | .range T x=> .opt (E.mty T) fun _=>(match ev x with
  | .mp id=> .getH id fun
   |some (.map kt vt m)=> .ret (.ptr nid [],[(id,none),(nid,some (.rng kt vt m none))])
   |_=> .fail
  |_=> .fail)
 | .next it false=>(match ev it with
  | .ptr id []=> .getH id fun
   |some (.rng _ _ [] _)=> .ret (.tup (.cons (.d .bool false) .nil),[])
   |_=> .fail
  |_=> .fail)
 | .entry it=>(match ev it with
  | .ptr id []=> .getH id fun
   |some (.rng kt vt _ (some e))=> .ret (.tup (.cons (.d kt e.1) (.cons (.d vt e.2) .nil)),[])
   |_=> .fail
  |_=> .fail)
 | .extract t i=>(match ev t with
  | .tup l=> .opt (l.nth i) fun v=> .ret (v,[])
  |_=> .fail)
 | .call c=>(match c.callee with
  | .builtin .len=>(match c.args.toList,c.argTypes[0]? with
   | [x],some T=>(ZoO (E.ty T) (E.mty T).isSome (ev x)).bind fun v=> .ret (v,[])
   |_,_=> .fail)
  | .builtin .min=>(match c.args.toList with
   |x::l=>(match ev x with
    | .d (.int k) a=>(Zjk Zpp k a (l.map ev)).bind fun v=> .ret (v,[])
    |_=> .fail)
   |_=> .fail)
  | .builtin .max=>(match c.args.toList with
   |x::l=>(match ev x with
    | .d (.int k) a=>(Zjk imax k a (l.map ev)).bind fun v=> .ret (v,[])
    |_=> .fail)
   |_=> .fail)
  | .builtin .append=>(match c.args.toList,(c.argTypes[0]?).bind E.ty with
   | [s,x],some (.sl t)=>bif !ZcM ((c.argTypes[1]?).bind E.ty) then(match ev s,ev x,(c.argTypes[1]?).bind E.ty with
     | .nils, .d (.int _) n,some (.int _)=>bif (c.argTypes[0]?).any E.rw|| !t.data then .fail else ZnV t nid n
     |_,_,_=> .fail) else bif (c.argTypes[0]?).any E.rw then(match t with
     | .sl t' =>ZnP t' nid (ev s) (ev x)
     |_=> .fail) else(match ev s with
     | .nw id ver kt k=>ZnY t nid id ver kt k (ev x)
     |s=>ZoM t nid s (ev x))
   |_,_=> .fail)
  | .builtin .copy=>(match c.args.toList,(c.argTypes[0]?).bind E.ty with
   | [d,s],some (.sl t)=>ZnB t (ev d) (ev s)
   |_,_=> .fail)
  | .builtin .cap=>(match c.args.toList,c.argTypes[0]? with
   | [x],some T=>(match ev x with
    | .nils=>bif ZcM (E.ty T) then .ret (.d (.int .i64) (0:Int),[]) else .fail
    |_=> .fail)
   |_,_=> .fail)
  | .value f=>(match ev f with
   | .fn f caps=>bif !(Zey caps&&ZfS (c.args.toList.map ev)) then .fail else let avs:=(AVs.ofList (c.args.toList.map ev)).app caps
    Zdb nid avs (ZbK (Zla avs) (E.specs f))
   |_=> .fail)
  |_=> .fail)
 |_=> .fail
def Zjx(t:Ty)(v:AV):Bool:=v.fits t&&Zhu v
def ZlF(v:AV):Acc Bool:=
 match v with
 | .nils=> .ret true
 | .d (.sl _) xs=> .opt (Zar (!xs.isEmpty)) fun _=> .ret false
 | .vw id=> .getH id fun
  |some (.vec _ xs)=> .opt (Zar (!xs.isEmpty)) fun _=> .ret false
  |_=> .fail
 |_=> .fail
def ZlD(t:Ty)(v:AV):Acc (List AV×List Nat):=
 match v with
 | .nils=> .ret ([],[])
 | .vw id=> .getH id fun
  |some (.cel t' l)=>bif t' ==t then .ret (l,[id]) else .fail
  |_=> .fail
 |_=> .fail
def ZhO(E:Env)(T:TypeId):Option Ty:=
 match E.ty T with
 |some (.sl t)=>bif t.data||E.rw T|| !Va t.size 1 then none else match t with
  | .ref=>some .ref
  | .sl e=>some (.sl e)
  |_=>none
 |_=>none
def aop(E:Env)(nid:Nat)(op:Op)(rt:TypeId)(ev:Operand->AV):Acc (AV×ZaN):=
 match op with
 | .call c=>(match c.callee with
  | .value f=>(match ev f with
   | .fn f caps=>(match E.inl f with
    |some h=>bif Zey caps&&ZfS (c.args.toList.map ev) then h nid ((AVs.ofList (c.args.toList.map ev)).app caps) else .fail
    |none=>ZaR E nid op rt ev)
   |_=>ZaR E nid op rt ev)
  | .builtin .len=>(match c.args.toList,c.argTypes[0]? with
   | [x],some T=>(match ev x with
    | .vw id=> .getH id fun
     |some (.cel t l)=>bif E.ty T==some (.sl t) then .ret (.d (.int .i64) (l.length:Int),[]) else .fail
     |_=>ZaR E nid op rt ev
    |_=>ZaR E nid op rt ev)
   |_,_=>ZaR E nid op rt ev)
  | .builtin .append=>(match c.args.toList,(c.argTypes[0]?).bind (ZhO E),(c.argTypes[1]?).bind E.ty with
   | [s,x],some t,some (.sl t')=>bif !(t' ==t) then .fail else(ZlD t (ev s)).bind fun p=>(ZlD t (ev x)).bind fun q=> .opt (Zar (Zcy (p.2++q.2) &&decide (p.1.length+q.1.length<=Zaz))) fun _=>
     .ret (.vw nid,((p.2++q.2).map fun id=>(id,none))++[(nid,some (.cel t (p.1++q.1)))])
   |_,_,_=>ZaR E nid op rt ev)
  | .builtin .clear=>(match c.args.toList,(c.argTypes[0]?).bind E.ty with
   | [x],some (.sl t)=>(match ev x with
    | .vs id lo n=> .getH id fun
     |some (.vec t' xs)=>bif t' ==t&&t'.data then .opt (Zar (decide (lo+n<=xs.length))) fun _=> .ret (.tup .nil,[(id,some (.vec t' (xs.take lo++Vc n (zeroEl t')++xs.drop (lo+n))))]) else .fail
     |_=> .fail
    |_=> .fail)
   |_,_=> .fail)
  |_=>ZaR E nid op rt ev)
 | .makeFunc fn first caps=>bif first.isEmpty then ZaR E nid (.makeFunc fn first caps) rt ev else .ret (.junk,[])
 | .load T a=>(match ev a with
  | .vp id i []=> .getH id fun
   |some (.cel t l)=>bif E.ty T==some t then .opt l[i]? fun v=> .ret (v,[]) else .fail
   |_=>ZaR E nid op rt ev
  |_=>ZaR E nid op rt ev)
 | .store T a x=>(match ev a with
  | .vp id i []=> .getH id fun
   |some (.cel t l)=>bif E.ty T==some t&&Zjx t (ev x) then .opt l[i]? fun _=> .ret (.junk,[(id,some (.cel t (l.set i (ev x))))]) else .fail
   |_=>ZaR E nid op rt ev
  |_=>ZaR E nid op rt ev)
 | .indexAddr T x i=>(match ev x,ev i with
  | .vw id, .d (.int _) n=> .getH id fun
   |some (.cel t l)=>bif E.ty T==some (.sl t) then .opt (inb n l.length) fun j=> .ret (.vp id j [],[]) else .fail
   |_=>ZaR E nid op rt ev
  | .vp id i p, .d (.int _) n=> .getH id fun
   |some (.vec t0 _)=> .opt (Za3 t0 p) fun q=>(match q.2 with
    | .arr m t=>bif E.ty T==some (.arr m t) then .opt (inb n m) fun j=> .ret (.vp id i (p++[j]),[]) else .fail
    |_=> .fail)
   |_=>ZaR E nid op rt ev
  |_,_=>ZaR E nid op rt ev)
 | .slice T x lo hi none=>(match ev x with
  | .vw id=> .getH id fun
   |some (.cel t l)=>bif !(Zba ev lo&&Zba ev hi) || !(E.ty T==some (.sl t)) then .fail else .opt (sliceB l.length l.length (lo.bind fun o=>ZaY (ev o)) (hi.bind fun o=>ZaY (ev o))) fun r=> .ret (.vs id r.1 (r.2 - r.1),[])
   |_=>ZaR E nid op rt ev
  | .ptr id []=> .getH id fun
   |some (.var t0 (.d (.arr n t) xs))=>bif !(Zba ev lo&&Zba ev hi) || !(E.ty T==some (.arr n t)) || !(t0== .arr n t) then .fail else .opt (sliceB n n (lo.bind fun o=>ZaY (ev o)) (hi.bind fun o=>ZaY (ev o))) fun r=> .ret (.d (.sl t) ((xs.drop r.1).take (r.2 - r.1)),[(id,none)])
   |_=>ZaR E nid op rt ev
  |_=>ZaR E nid op rt ev)
 | .makeSlice T l c=>(match ZhO E T,ev l,ev c with
  |some (.sl e), .d (.int _) n, .d (.int _) m=> .opt (Zar (decide (0<=n/\n<=m/\m<=Zaz))) fun _=> .ret (.vw nid,[(nid,some (.cel (.sl e) (Vc n.toNat .nils)))])
  |_,_,_=>ZaR E nid op rt ev)
 | .buildSlice T n ps=>(match ZhO E T,n,ps.toList with
  |some t,1,[(0,x)]=>bif Zjx t (ev x) then .ret (.vw nid,[(nid,some (.cel t [ev x]))]) else .fail
  |_,_,_=>ZaR E nid op rt ev)
 | .binOp b T x y _=>(match ev x,ev y with
  | .ptr i [], .ptr j []=>bif Va i j&&E.pz T then(match b with
   | .eql=> .ret (.d .bool true,[])
   | .neq=> .ret (.d .bool false,[])
   |_=> .fail) else ZaR E nid op rt ev
  |u, .nils=>bif ZcM (E.ty T) then(ZlF u).bind fun r=>(match b with
   | .eql=> .ret (.d .bool r,[])
   | .neq=> .ret (.d .bool (!r),[])
   |_=> .fail) else ZaR E nid op rt ev
  |_,_=>ZaR E nid op rt ev)
 |op=>ZaR E nid op rt ev
end Tr
