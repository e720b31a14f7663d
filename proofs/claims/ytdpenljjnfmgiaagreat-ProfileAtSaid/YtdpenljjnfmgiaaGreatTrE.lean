/- The definitions of the abstract machine, the last part: states, regions, code, loops, functions. Conditions: none. -/
import Derived.Test.YtdpenljjnfmgiaaGreatTrD
open Nat renaming beq ->Va
open Prod renaming fst ->Vb
namespace Tr
open Go
structure AS where
 F:Nat->AV
 H:AH
 nx:Nat
 fz:List Nat
def ZgE(F:Nat->AV)(n:Nat)(v:AV):Nat->AV:=fun k=>bif Va k n then v else F k
def ZdC(F:Nat->AV)(d:Option Nat)(v:AV):Nat->AV:=match d with
 |some n=>ZgE F n v
 |none=>F
def Zdu:AV:= .tup .nil
def Zad(H:AH):ZaM->AH
 | []=>H
 |p::l=>Zad (Za6 H p.1 p.2) l
inductive Ex where
 |normal
 |exit (id:Nat)
 |ret
 |jump (l:Nat)
def Ex.beq:Ex->Ex->Bool
 | .normal, .normal=>true
 | .exit a, .exit b=>Va a b
 | .ret, .ret=>true
 | .jump a, .jump b=>Va a b
 |_,_=>false
def Zfq{σ τ:Type}(step:σ->Option (σ ⊕ τ)):Nat->σ->Option τ
 |0,_=>none
 |n+1,s=>match step s with
  |some (.inl s')=>Zfq step n s'
  |some (.inr r)=>some r
  |none=>none
open Classical in
noncomputable def run{σ τ:Type}(step:σ->Option (σ ⊕ τ))(s:σ):Option τ:=
 match Zfq step 100000 s with
 |some r=>some r
 |none=>if h: ∃r n,Zfq step n s=some r then some h.choose else none
def ZmE{σ τ ρ:Type}(cnt:σ->Nat)(step:σ->Nat->Option (σ ⊕ τ))(k:τ->Option ρ)(z:ρ):Nat->σ->Prop
 |0,_=>False
 |n+1,s=> ∀i,i<cnt s->(∃s',step s i=some (.inl s')/\ZmE cnt step k z n s')\/ ∃t,step s i=some (.inr t)/\k t=some z
def Znb{σ τ ρ:Type}(cnt:σ->Nat)(step:σ->Nat->Option (σ ⊕ τ))(k:τ->Option ρ):Nat->σ->Option ρ
 |0,_=>none
 |n+1,s=>bif Nat.ble (cnt s) 1 then(match step s 0 with
  |some (.inl s')=>Znb cnt step k n s'
  |some (.inr t)=>k t
  |none=>none) else none
open Classical in
noncomputable def drun{σ τ ρ:Type}(cnt:σ->Nat)(step:σ->Nat->Option (σ ⊕ τ))(k:τ->Option ρ)(s:σ):Option ρ:=
 match Znb cnt step k 1000 s with
 |some r=>some r
 |none=>if h: ∃z n,ZmE cnt step k z n s then some h.choose else none
structure Trc where
 i:Nat
 rd:List Nat
 wr:List Nat
def ZcZ(E:Env):Option Nat->Bool
 |some d=>Nat.blt d E.nt&& !Zcy d E.ks
 |none=>true
def Zdy(E:Env)(ops:Array Oper)(base:Nat)(fz:List Nat)(ρ:Type):List (Oper×Nat)->(Nat->AV)->AH->List Trc->((Nat->AV)->AH->List Trc->Option ρ)->Option ρ
 | [],F,H,tr,k=>k F H tr
 | (o,i)::rest,F,H,tr,k=>
  let go:=fun(F:Nat->AV)=>bif ZcZ E o.dst then
   (aop E (base+i*E.stp) o.op o.type (aev F)).runK H [] fun r rd=>
    bif Zb8 (r.2.map Vb) fz then
     Zdy E ops base fz ρ rest (ZdC F o.dst r.1) (Zad H r.2) (⟨i,rd,r.2.map Vb⟩::tr) k else none else none
  let skip:=fun(F:Nat->AV)=>bif ZcZ E o.dst then Zdy E ops base fz ρ rest (ZdC F o.dst Zdu) H tr k else none
  match o.guard with
  |none=>go F
  |some (j,want)=>match (ops[j]?).bind (·.dst) with
   |none=>none
   |some g=>match F g with
    | .d .bool b=>bif b then(bif want then go (ZgE F g (.d .bool true)) else skip (ZgE F g (.d .bool true)))
      else(bif want then skip (ZgE F g (.d .bool false)) else go (ZgE F g (.d .bool false)))
    | .tup .nil=>skip F
    |_=>none
def ZeY:List Operand->List Nat
 | []=>[]
 | .tmp t::l=>t::ZeY l
 |_::l=>ZeY l
def ZcW(ops:Array Oper)(o:Oper):List Nat:=
 (match o.guard with
  |some (j,_)=>((ops[j]?).bind (·.dst)).toList
  |none=>[])++ZeY o.op.operands.toList
def Zde(ops:Array Oper)(a b:Oper):Bool:=
 (match a.dst with
  |some d=> !Zcy d (ZcW ops b) && (match b.dst with|some e=> !Va d e|none=>true)
  |none=>true) &&
 (match b.dst with
  |some d=> !Zcy d (ZcW ops a)
  |none=>true)
def ZcT(i:Nat):List Trc->Option Trc
 | []=>none
 |t::l=>bif Va t.i i then some t else ZcT i l
def Ziw(tr:List Trc)(i j:Nat):Bool:=
 match ZcT i tr,ZcT j tr with
 |some a,some b=>Zb8 a.wr b.rd&&Zb8 a.wr b.wr&&Zb8 b.wr a.rd
 |_,_=>true
def Zlj(ops:Array Oper):List (Nat×Nat):=
 let b:=Region.before ops
 (List.range ops.size).flatMap fun j=>(List.range j).filterMap fun i=>if (b.getD j 0).testBit i then none else some (i,j)
def Zl3(ops:Array Oper):Bool:=(Zlj ops).all fun p=>match ops[p.1]?,ops[p.2]? with
 |some a,some b=>Zde ops a b
 |_,_=>true
def ZhH(ops:Array Oper):Bool:=ops.toList.zipIdx.all fun p=>p.1.after.all fun e=> !Region.binds .any e||Nat.blt e.on p.2
def Ze8(ops:Array Oper)(tr:List Trc):Bool:=
 ZhH ops&&Zl3 ops&& (tr.all (fun t=>t.wr.isEmpty) || (Zlj ops).all fun p=>Ziw tr p.1 p.2)
@[reducible] def ElT:List (Nat×Ty)->Type
 | []=>Unit
 | [(_,t)]=>El t
 | (_,t)::p::l=>El t×ElT (p::l)
def ZmC(F:Nat->AV): (l:List (Nat×Ty))->Option (ElT l)
 | []=>some ()
 | [(n,t)]=>(match F n with
  | .d t' x=>Zax t' t x
  |_=>none)
 | (n,t)::p::l=>(match F n with
  | .d t' x=>(Zax t' t x).bind fun y=>(ZmC F (p::l)).bind fun z=>some (y,z)
  |_=>none)
def inT(F:Nat->AV): (l:List (Nat×Ty))->ElT l->Nat->AV
 | [],_=>F
 | [(n,t)],x=>ZgE F n (.d t x)
 | (n,t)::p::l,x=>inT (ZgE F n (.d t x.1)) (p::l) x.2
def Zmx(l:List Nat)(F:Nat->AV):Nat->AV:=fun k=>bif Zcy k l then .junk else F k
def Zii(ops:List Oper):List Nat:=ops.filterMap (·.dst)
def Zhp(E:Env)(ops:Array Oper)(draw:Bool)(outs:Option (List (Nat×Ty)))(ρ:Type)(s:AS)(k:AS->Option ρ):Option ρ:=
 let nx:=s.nx+ops.size*E.stp
 match outs with
 |none=>Zdy E ops s.nx s.fz ρ ops.toList.zipIdx s.F s.H [] fun F H tr=>bif !draw||Ze8 ops tr then k ⟨F,H,nx,s.fz⟩ else none
 |some l=>(Zdy E ops s.nx s.fz (ElT l) ops.toList.zipIdx s.F s.H [] fun F _ tr=>bif (!draw||Ze8 ops tr) &&tr.all (fun t=>t.wr.isEmpty) then ZmC F l else none).bind
   fun x=>k ⟨inT (Zmx (Zii ops.toList) s.F) l x,s.H,nx,s.fz⟩
structure Zew where
 roots:List (Nat×Pat)
 fns:List (Nat×FuncId×List Nat):=[]
 kept:List Nat:=[]
 als:List (Nat×Nat):=[]
 kf:List (Nat×Nat×Nat):=[]
 kv:List Nat:=[]
@[reducible] def ElR:List (Nat×Pat)->Type
 | []=>Unit
 | [(_,p)]=>ElP p
 | (_,p)::q::l=>ElP p×ElR (q::l)
def ZlU(F:Nat->AV): (l:List (Nat×Pat))->Acc (ElR l×Ids)
 | []=> .ret ((),Ids.none)
 | [(n,p)]=>ext p (F n)
 | (n,p)::q::l=>(ext p (F n)).bind fun x=>(ZlU F (q::l)).bind fun y=> .ret ((x.1,y.1),x.2.app y.2)
def Zdq: (l:List (Nat×Pat))->ElR l->Nat->List (Nat×AV) ×List (Nat×Zco) ×Nat
 | [],_,n=>([],[],n)
 | [(m,p)],x,n=>let r:=inj p x n;([(m,r.1)],r.2.1,r.2.2)
 | (m,p)::q::l,x,n=>let r:=inj p x.1 n;let s:=Zdq (q::l) x.2 r.2.2;((m,r.1)::s.1,r.2.1++s.2.1,s.2.2)
def Zha:List (Nat×AV)->Nat->AV
 | [],_=> .junk
 |p::l,k=>bif Va k p.1 then p.2 else Zha l k
def ZcA:List (Nat×Zco)->AH
 | [],_=>none
 |p::l,k=>bif Va k p.1 then some p.2 else ZcA l k
def AV.box? :AV->Option Nat
 | .ptr id []=>some id
 |_=>none
def ZcM(F:Nat->AV):AVs->List Nat->Bool
 | .nil,[]=>true
 | .cons v l,n::m=>(match v.box?,(F n).box? with
  |some a,some b=>Va a b
  |_,_=>false) &&ZcM F l m
 |_,_=>false
def ZjR(F:Nat->AV):List (Nat×FuncId×List Nat)->Bool
 | []=>true
 | (n,f,l)::m=>(match F n with
  | .fn f' caps=>Va f' f&&ZcM F caps l
  |_=>false) &&ZjR F m
def Zh6(F:Nat->AV):List (Nat×FuncId×List Nat)->Nat->AV
 | []=>F
 | (n,f,l)::m=>ZgE (Zh6 F m) n (.fn f (AVs.ofList (l.map F)))
def ZjL(x y:AV):Bool:=match x,y with
 | .vw a, .vw b=>Va a b
 | .mp a, .mp b=>Va a b
 | .ptr a [], .ptr b []=>Va a b
 | .nils, .nils=>true
 |_,_=>false
def ZjM(F:Nat->AV):List (Nat×Nat)->Bool
 | []=>true
 |p::l=>ZjL (F p.1) (F p.2) &&ZjM F l
def Ziy(F:Nat->AV):List (Nat×Nat)->Nat->AV
 | []=>F
 |p::l=>ZgE (Ziy F l) p.1 (F p.2)
def AV.boxes:AVs->List Nat
 | .nil=>[]
 | .cons v l=>v.box?.toList++AV.boxes l
def ZbV(s:AS):List Nat->List Nat
 | []=>[]
 |n::l=>(match s.F n with
  | .ptr id []=>[id]
  | .vw id=>[id]
  | .nw id _ _ _=>[id]
  | .mp id=>[id]
  | .fn _ caps=>AV.boxes caps
  |_=>[])++ZbV s l
def ZgD(H:AH)(id:Nat):Bool:=match H id with
 |some (.var _ (.d _ _))=>true
 |some (.vec _ _)=>true
 |some (.map _ _ _)=>true
 |some (.rows _ _ _ none)=>true
 |some (.mrows _ _ _ _ none)=>true
 |some (.rng _ _ _ _)=>true
 |some (.dat _ _)=>true
 |some (.bld _ _ _)=>true
 |_=>false
def Zh8(H:AH):AVs->Bool
 | .nil=>true
 | .cons v l=>(match v with
  | .ptr id []=>ZgD H id
  | .dp _ _=>true
  | .d _ _=>true
  |_=>false) &&Zh8 H l
def ZcR(s:AS):List Nat->Bool
 | []=>true
 |n::l=>(match s.F n with
  | .d _ _=>true
  | .dp _ _=>true
  | .nilr=>true
  | .nils=>true
  | .ptr id []=>ZgD s.H id
  | .vw id=>ZgD s.H id
  | .nw id _ _ _=>ZgD s.H id
  | .mp id=>ZgD s.H id
  | .fn _ caps=>Zh8 s.H caps
  |_=>false) &&ZcR s l
def Zam(b:AS)(e:Zew):List Nat:=ZbV b e.kept++b.fz
def Za9(E:Env)(e:Zew):Env:= {E with ks:=e.kept++(e.kv++E.ks) }
def ZkD(fz:List Nat)(e:Zew)(s:AS):Option (ElR e.roots):=
 (ZlU s.F e.roots).runK s.H [] fun r _=>bif r.2.ok fz&&Zb8 r.2.br fz&&ZjR s.F e.fns&&ZjM s.F e.als then some r.1 else none
def Zi7(b:AS)(fz:List Nat)(e:Zew)(x:ElR e.roots):AS:=
 let r:=Zdq e.roots x b.nx
 ⟨Ziy (Zh6 (fun k=>bif Zcy k e.kept then b.F k else Zha r.1 k) e.fns) e.als,fun id=>bif Zcy id (Zam b e) then b.H id else ZcA r.2.1 id,r.2.2,fz⟩
def Zi3(s:AS)(k:Nat×Nat×Nat):Option Nat:=match s.F k.1 with
 | .ptr id []=>(match s.H id with
  |some (.var T (.agg c))=>(match c.nth k.2.1 with
   |some (.vw a)=>bif Va (Zly T k.2.1) k.2.2 then some a else none
   |_=>none)
  |_=>none)
 |_=>none
def ZmZ(b s:AS):List (Nat×Nat×Nat)->Bool
 | []=>true
 |k::l=>(match Zi3 b k,Zi3 s k with
  |some x,some y=>Va x y
  |_,_=>false) &&ZmZ b s l
def Zlv(b:AS)(fz:List Nat)(k:Nat×Nat×Nat)(s:AS):AS:=match Zi3 b k,Zi3 s k,s.F k.1 with
 |some a,some a2, .ptr id []=>(match s.H id,s.H a2,b.H a with
  |some (.var T (.agg c)),some (.vec t xs),some (.vec t0 _)=>bif t0==t&& !Va a2 id&& !Va a id&& !Zcy a fz&& !Zcy a2 fz&& !Zcy id fz then
    {s with H:=Za6 (Za6 (Za6 (Za6 s.H a2 none) id none) a (some (.vec t xs))) id (some (.var T (.agg (c.putNth k.2.1 (.vw a))))) } else s
  |_,_,_=>s)
 |_,_,_=>s
def ZlM(b:AS)(fz:List Nat):List (Nat×Nat×Nat)->AS->AS
 | [],s=>s
 |k::l,s=>ZlM b fz l (Zlv b fz k s)
def Zmj(b:AS):List Nat->(Nat->AV)->Nat->AV
 | [],F=>F
 |n::l,F=>Zmj b l (ZgE F n (b.F n))
def Zes(b:AS)(fz:List Nat)(e:Zew)(s:AS):Option (ElR e.roots):=bif ZmZ b s e.kf then ZkD fz e s else none
def Zhn(b:AS)(fz:List Nat)(e:Zew)(x:ElR e.roots):AS:=
 let s:=ZlM b (Zam b e) e.kf (Zi7 b fz e x)
 ⟨Zmj b e.kv s.F,s.H,s.nx,fz⟩
abbrev Zep:=List (Ex×Zew)
@[reducible] def Zdj:Zep->Type
 | []=>Empty
 | [e]=>ElR e.2.roots
 |e::f::l=>ElR e.2.roots ⊕ Zdj (f::l)
def Zdl(b:AS)(fz:List Nat): (J:Zep)->Ex->AS->Option (Zdj J)
 | [],_,_=>none
 | [e],x,s=>bif x.beq e.1 then Zes b fz e.2 s else none
 |e::f::l,x,s=>bif x.beq e.1 then(Zes b fz e.2 s).bind fun y=>some (.inl y) else(Zdl b fz (f::l) x s).bind fun y=>some (.inr y)
def Zdn{ρ:Type}(b:AS): (J:Zep)->Zdj J->(Ex->AS->Option ρ)->Option ρ
 | [],_,_=>none
 | [e],y,k=>k e.1 (Zhn b b.fz e.2 y)
 |e::f::l,y,k=>match y with
  | .inl y=>k e.1 (Zhn b b.fz e.2 y)
  | .inr y=>Zdn b (f::l) y k
def Zew.slots(e:Zew):List Nat:=e.roots.map Vb++e.fns.map Vb++e.kept
def ZbH(e:Zew):Zep->Bool
 | []=>true
 |f::l=>f.2.kept.all (fun n=>Zcy n e.kept) &&f.2.kv.all (fun n=>Zcy n e.kv) &&Zcp f.2.slots&&ZbH e l
inductive ZeI where
 |leaf
 |seq (a b:ZeI)
 |cnd (J:Option (Zew×Zep)) (a b:ZeI)
 |lp (e:Zew) (J:Zep) (h:ZeI)
 |lpd (it:Nat) (e:Zew) (J:Zep) (h:ZeI)
 |reg (outs:List (Nat×Ty))
 |all (n:Nat)
def ZeI.l:ZeI->ZeI
 | .seq a _=>a
 | .cnd _ a _=>a
 | .all n=> .all n
 |_=> .leaf
def ZeI.r:ZeI->ZeI
 | .seq _ b=>b
 | .cnd _ _ b=>b
 | .all n=> .all n
 |_=> .leaf
def ZeI.join:ZeI->Option (Zew×Zep)
 | .cnd J _ _=>J
 |_=>none
def ZeI.outs:ZeI->Option (List (Nat×Ty))
 | .reg l=>some l
 |_=>none
def ZdM(it:Nat)(s:AS):Nat:=match s.F it with
 | .ptr id []=>(match s.H id with
  |some (.rng _ _ rest _)=>bif rest.isEmpty then 1 else rest.length
  |_=>1)
 |_=>1
def ZhM(E:Env)(ops:Array Oper)(it i:Nat)(ρ:Type)(s:AS)(k:AS->Option ρ):Option ρ:=
 match ops.toList.zipIdx with
 | []=>none
 | (o,_)::l=>(match o.op,o.guard,o.dst with
  | .next (.tmp it') false,none,some d=>bif Va it' it&&ZcZ E (some d) then(match s.F it with
   | .ptr id []=>(match s.H id with
    |some (.rng kt vt rest _)=>bif Zcy id s.fz then none else
      bif rest.isEmpty then Zdy E ops s.nx s.fz ρ l (ZdC s.F (some d) (.tup (.cons (.d .bool false) .nil))) s.H [] fun F H _=>k ⟨F,H,s.nx+ops.size*E.stp,s.fz⟩
      else(rest[i]?).bind fun e=>Zdy E ops s.nx s.fz ρ l (ZdC s.F (some d) (.tup (.cons (.d .bool true) (.cons (.d kt e.1) (.cons (.d vt e.2) .nil)))))
       (Za6 s.H id (some (.rng kt vt (rest.eraseIdx i) (some e)))) [] fun F H _=>k ⟨F,H,s.nx+ops.size*E.stp,s.fz⟩
    |_=>none)
   |_=>none) else none
  |_,_,_=>none)
def Zm0{ρ:Type}(f:AS->(Ex->AS->Option ρ)->Option ρ)(k:Ex->AS->Option ρ):Nat->AS->Option ρ
 |0,_=>none
 |n+1,s=>f s fun e s' =>match e with
  | .normal=>Zm0 f k n s'
  |e=>k e s'
noncomputable def ZaZ:Code->ZeI->Env->(ρ:Type)->AS->(Ex->AS->Option ρ)->Option ρ
 | .skip,_,_,_,s,k=>k .normal s
 | .label _,_,_,_,s,k=>k .normal s
 | .scope c,h,E,ρ,s,k=>ZaZ c h E ρ s fun e s' =>match e with
  | .jump _=>none
  |e=>k e s'
 | .goto l,_,_,_,s,k=>k (.jump l) s
 | .region _ ops draw,h,E,ρ,s,k=>Zhp E ops draw h.outs ρ s (k .normal)
 | .seq a b,h,E,ρ,s,k=>ZaZ a h.l E ρ s fun e s' =>match e with
  | .normal=>ZaZ b h.r E ρ s' k
  |e=>k e s'
 | .cond c a b,h,E,ρ,s,k=>match aev s.F c with
  | .d .bool t=>(match h.join with
   |none=>bif t then ZaZ a h.l E ρ s k else ZaZ b h.r E ρ s k
   |some (e,J)=>bif ZcR s e.kept&&ZbH e J then
     (let s1:AS:= {s with fz:=Zam s e}
      bif t then ZaZ a h.l (Za9 E e) (Zdj J) s1 (Zdl s (Zam s e) J) else ZaZ b h.r (Za9 E e) (Zdj J) s1 (Zdl s (Zam s e) J)).bind fun o=>Zdn s J o k
    else none)
  |_=>none
 | .block id c,h,E,ρ,s,k=>ZaZ c h E ρ s fun e s' =>match e with
  | .exit i=>bif Va i id then k .normal s' else k (.exit i) s'
  |e=>k e s'
 | .loop c,h,E,ρ,s,k=>match h with
  | .all n=>Zm0 (fun s k=>ZaZ c (.all n) E ρ s k) k n s
  | .lp en J hb=>bif ZcR s en.kept&&ZbH en J&&Zcp en.slots then
    (Zes s (Zam s en) en s).bind fun x=>(run (fun y=>ZaZ c hb (Za9 E en) (ElR en.roots ⊕ Zdj J) (Zhn s (Zam s en) en y) fun e s' =>match e with
     | .normal=>(Zes s (Zam s en) en s').bind fun z=>some (.inl z)
     |e=>(Zdl s (Zam s en) J e s').bind fun z=>some (.inr z)) x).bind fun o=>Zdn s J o k
   else none
  | .lpd it en J hb=>(match c with
   | .seq (.region _ ops false) c2=>bif ZcR s en.kept&&ZbH en J&&Zcp en.slots then
     (Zes s (Zam s en) en s).bind fun x=>drun (fun y=>ZdM it (Zhn s (Zam s en) en y)) (fun y i=>ZhM (Za9 E en) ops it i (ElR en.roots ⊕ Zdj J) (Zhn s (Zam s en) en y) fun s1=>ZaZ c2 hb (Za9 E en) (ElR en.roots ⊕ Zdj J) s1 fun e s' =>match e with
      | .normal=>(Zes s (Zam s en) en s').bind fun z=>some (.inl z)
      |e=>(Zdl s (Zam s en) J e s').bind fun z=>some (.inr z)) (fun o=>Zdn s J o k) x
    else none
   |_=>none)
  |_=>none
 | .exit id,_,_,_,s,k=>k (.exit id) s
 | .ret,_,_,_,s,k=>k .ret s
 |_,_,_,_,_,_=>none
def AVs.toF:AVs->Nat->AV
 | .nil,_=>Zdu
 | .cons v _,0=>v
 | .cons _ l,n+1=>l.toF n
mutual
def Pat.back:Pat->Bool
 | .own _ k=>k
 | .var _ _=>true
 | .map _ _=>true
 | .rows _ k=>k
 | .mrows _ _=>true
 | .bld _ _ k=>k
 | .agg l=>l.back
 | .fn _ l=>l.back
 |_=>false
def ZaP.back:ZaP->Bool
 | .nil=>false
 | .cons p l=>p.back||l.back
end
mutual
def ZlW: (p:Pat)->ElP p
 | .pd t=>zeroEl t
 | .own _ _=>[]
 | .var _ p=>ZlW p
 | .ro t=>zeroEl t
 | .map _ _=>[]
 | .rows _ _=>[]
 | .mrows _ _=>[]
 | .it _ _=>[]
 | .bld _ _ _=>[]
 | .agg l=>ZjZ l
 | .fn _ l=>ZjZ l
 | .nilr=>()
 | .nils=>()
 | .any=>()
def ZjZ: (l:ZaP)->Zcf l
 | .nil=>()
 | .cons p l=>(ZlW p,ZjZ l)
end
mutual
def ZlC: (p:Pat)->Zji p
 | .own _ true=>[]
 | .own _ false=>()
 | .var _ p=>ZlW p
 | .map _ _=>[]
 | .rows _ true=>[]
 | .rows _ false=>()
 | .mrows _ _=>[]
 | .it _ _=>()
 | .bld _ _ true=>[]
 | .bld _ _ false=>()
 | .agg l=>ZhC l
 | .fn _ l=>ZhC l
 | .pd _=>()
 | .ro _=>()
 | .nilr=>()
 | .nils=>()
 | .any=>()
def ZhC: (l:ZaP)->ZbA l
 | .nil=>()
 | .cons p l=>(ZlC p,ZhC l)
end
def Zjx:Pat->AV->Bool
 | .pd t,v=>v.fits t
 | .own t _,v=>v.fits (.sl t)
 | .rows t _,v=>v.fits (.sl (.sl t))
 | .agg _,_=>true
 | .fn _ _,_=>true
 | .any,_=>false
 | .nils,v=>v.fits (.sl .unit)
 |_,v=>v.fits .ref
mutual
def Zb6: (p:Pat)->AV->Acc (Zji p×Ids)
 | .own t true, .vw id=> .getH id fun
  |some (.vec t' xs)=> .opt (Zax (.sl t') (.sl t) xs) fun y=> .ret (y,⟨[id],[]⟩)
  |_=> .fail
 | .own _ false,_=> .ret ((),Ids.none)
 | .var t p, .ptr id []=> .getH id fun
  |some (.var t' c)=>bif t' ==t&&p.fits t then(ext p c).bind fun r=> .ret (r.1,⟨id::r.2.tk,r.2.br⟩) else .fail
  |_=> .fail
 | .map kt vt, .mp id=> .getH id fun
  |some (.map k e m)=> .opt (Zax (.sl (.prod k e)) (.sl (.prod kt vt)) m) fun y=> .ret (y,⟨[id],[]⟩)
  |_=> .fail
 | .rows t true, .vw id=> .getH id fun
  |some (.rows t' xs _ none)=> .opt (Zax (.sl (.sl t')) (.sl (.sl t)) xs) fun y=> .ret (y,⟨[id],[]⟩)
  |_=> .fail
 | .rows _ false,_=> .ret ((),Ids.none)
 | .mrows kt t, .mp id=> .getH id fun
  |some (.mrows k t' m _ none)=> .opt (Zax (.sl (.prod k (.sl t'))) (.sl (.prod kt (.sl t))) m) fun y=> .ret (y,⟨[id],[]⟩)
  |_=> .fail
 | .it _ _,_=> .ret ((),Ids.none)
 | .bld T e true, .ptr id []=> .getH id fun
  |some (.bld T' e' bs)=>bif Va T' T&&Va e' e then .ret (bs,⟨[id],[]⟩) else .fail
  |_=> .fail
 | .bld _ _ false,_=> .ret ((),Ids.none)
 | .agg l, .agg vs=>Ze4 l vs
 | .fn f l, .fn f' vs=>bif Va f' f then Ze4 l vs else .fail
 | .pd _,_=> .ret ((),Ids.none)
 | .ro _,_=> .ret ((),Ids.none)
 | .nilr,_=> .ret ((),Ids.none)
 | .nils,_=> .ret ((),Ids.none)
 | .any,_=> .ret ((),Ids.none)
 |_,_=> .fail
def Ze4: (l:ZaP)->AVs->Acc (ZbA l×Ids)
 | .nil, .nil=> .ret ((),Ids.none)
 | .cons p l, .cons v vs=>bif Zjx p v then(Zb6 p v).bind fun x=>(Ze4 l vs).bind fun y=> .ret ((x.1,y.1),x.2.app y.2) else .fail
 |_,_=> .fail
end
def ZfG: (l:ZaP)->AVs->Acc (ZbA l×Ids)
 | .nil,_=> .ret ((),Ids.none)
 | .cons p l, .cons v vs=>bif p.back then(Zb6 p v).bind fun x=>(ZfG l vs).bind fun y=> .ret ((x.1,y.1),x.2.app y.2)
   else(ZfG l vs).bind fun y=> .ret ((ZlC p,y.1),y.2)
 |_,_=> .fail
def ZdI(E:Env)(s:AS):List ResultVar->Acc AVs
 | []=> .ret .nil
 | .tmp t::l=>(ZdI E s l).bind fun vs=> .ret (.cons (s.F t) vs)
 | .cell a T::l=> .opt (E.ty T) fun t=>(match s.F a with
  | .ptr id p=> .getH id fun
   |some (.var _ c)=>(ZeH c p).bind fun v=>bif v.fits t&&v.solid then(ZdI E s l).bind fun vs=> .ret (.cons v vs) else .fail
   |_=> .fail
  |_=> .fail)
def Zbl:ZaP->Nat->List Nat
 | .nil,_=>[]
 | .cons p l,n=>(bif p.back then [n] else [])++Zbl l (n+1)
def ZaP.len:ZaP->Nat
 | .nil=>0
 | .cons _ l=>l.len+1
def ZeR(F:Nat->AV):ZaP->Nat->AVs
 | .nil,_=> .nil
 | .cons _ l,n=> .cons (F n) (ZeR F l (n+1))
def Zkz(E:Env)(results:Array ResultVar)(args res:ZaP)(fz:List Nat)(e:Ex)(s:AS):Option (ZbA args×Zcf res):=
 match e with
 | .exit _=>none
 | .jump _=>none
 |_=>((ZdI E s results.toList).bind fun vs=>(Zdk res vs).bind fun r=>(ZfG args (ZeR s.F args 0)).bind fun o=> .ret ((o.1,r.1),o.2.app r.2)).runK s.H [] fun r _=>
   bif r.2.ok fz&&Zb8 r.2.br fz then some r.1 else none
def Zkv(ks:List Nat)(av:AVs)(H0:AH)(s:AS):List (Nat×Nat×Nat)->Bool
 | []=>true
 |k::l=>(match av.nth k.1,s.F k.1 with
  |some (.ptr id []), .ptr id' []=>(match H0 id,s.H id' with
   |some (.var T (.agg c)),some (.var T' (.agg c'))=>(match c.nth k.2.1,c'.nth k.2.1 with
    |some (.vw a),some (.vw b)=>Va a b&&T' ==T&&Va (Zly T k.2.1) k.2.2&&Zcy k.1 ks
    |_,_=>false)
   |_,_=>false)
  |_,_=>false) &&Zkv ks av H0 s l
noncomputable def Zgo(E:Env)(body:Code)(results:Array ResultVar)(h:ZeI)(args res:ZaP){α:Type}(pack:ZbA args×Zcf res->α)(x:Zcf args)(kp:List (Nat×Nat×Nat):=[]):Option α:=
 let r:=Zb7 args x 0
 ZaZ body h {E with ks:=Zbl args 0} α ⟨r.1.toF,ZcA r.2.1,r.2.2,[]⟩ fun e s=>
  (Zkz E results args res [] e s).bind fun y=>bif Zkv (Zbl args 0) r.1 (ZcA r.2.1) s kp then some (pack y) else none
def mkE(tys:List (Nat×Ty))(ms:List (Nat×Ty×Ty))(pks:List (Nat×Nat))(rws zxs:List Nat)(m:List (Nat×List Spec))(nt:Nat)(bds:List (Nat×Nat):=[]):Env:=
 {ty:=fun n=>tys.lookup n,mty:=fun n=>ms.lookup n,pk:=fun n=>(pks.lookup n).getD 0,rw:=fun n=>rws.contains n,zx:=fun n=>zxs.contains n,bd:=fun n=>bds.lookup n,specs:=fun n=>(m.lookup n).getD [],nt:=nt,ks:=[] }
def Zb1(f:Func):Code:=match f.body with
 |some b=>b
 |none=> .skip
end Tr
