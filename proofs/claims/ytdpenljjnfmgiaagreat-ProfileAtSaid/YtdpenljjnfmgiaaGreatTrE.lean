/- The definitions of the abstract machine, the last part: states, regions, code, loops, functions. Conditions: none. -/
import Derived.Test.YtdpenljjnfmgiaaGreatTrD
open Nat renaming beq ->Va
open Prod renaming fst ->Vb
namespace Tr
open Go
structure AS where
 F:Nat->AV
 H:AH
 nx:Nat
 fz:List Nat
def ZgD(F:Nat->AV)(n:Nat)(v:AV):Nat->AV:=fun k=>bif Va k n then v else F k
def ZdD(F:Nat->AV)(d:Option Nat)(v:AV):Nat->AV:=match d with
 |some n=>ZgD F n v
 |none=>F
def Zds:AV:= .tup .nil
def Zad(H:AH):ZaN->AH
 | []=>H
 |p::l=>Zad (Za6 H p.1 p.2) l
inductive Ex where
 |normal
 |exit (id:Nat)
 |ret
 |jump (l:Nat)
def Ex.beq:Ex->Ex->Bool
 | .normal, .normal=>true
 | .exit a, .exit b=>Va a b
 | .ret, .ret=>true
 | .jump a, .jump b=>Va a b
 |_,_=>false
def Zfp{σ τ:Type}(step:σ->Option (σ ⊕ τ)):Nat->σ->Option τ
 |0,_=>none
 |n+1,s=>match step s with
  |some (.inl s')=>Zfp step n s'
  |some (.inr r)=>some r
  |none=>none
open Classical in
noncomputable def run{σ τ:Type}(step:σ->Option (σ ⊕ τ))(s:σ):Option τ:=
 match Zfp step 100000 s with
 |some r=>some r
 |none=>if h: ∃r n,Zfp step n s=some r then some h.choose else none
def ZmB{σ τ ρ:Type}(cnt:σ->Nat)(step:σ->Nat->Option (σ ⊕ τ))(k:τ->Option ρ)(z:ρ):Nat->σ->Prop
 |0,_=>False
 |n+1,s=> ∀i,i<cnt s->(∃s',step s i=some (.inl s')/\ZmB cnt step k z n s')\/ ∃t,step s i=some (.inr t)/\k t=some z
def Zm5{σ τ ρ:Type}(cnt:σ->Nat)(step:σ->Nat->Option (σ ⊕ τ))(k:τ->Option ρ):Nat->σ->Option ρ
 |0,_=>none
 |n+1,s=>bif Nat.ble (cnt s) 1 then(match step s 0 with
  |some (.inl s')=>Zm5 cnt step k n s'
  |some (.inr t)=>k t
  |none=>none) else none
open Classical in
noncomputable def drun{σ τ ρ:Type}(cnt:σ->Nat)(step:σ->Nat->Option (σ ⊕ τ))(k:τ->Option ρ)(s:σ):Option ρ:=
 match Zm5 cnt step k 1000 s with
 |some r=>some r
 |none=>if h: ∃z n,ZmB cnt step k z n s then some h.choose else none
structure Trc where
 i:Nat
 rd:List Nat
 wr:List Nat
def ZcW(E:Env):Option Nat->Bool
 |some d=>Nat.blt d E.nt&& !Zcr d E.ks
 |none=>true
def Zdw(E:Env)(ops:Array Oper)(base:Nat)(fz:List Nat)(ρ:Type):List (Oper×Nat)->(Nat->AV)->AH->List Trc->((Nat->AV)->AH->List Trc->Option ρ)->Option ρ
 | [],F,H,tr,k=>k F H tr
 | (o,i)::rest,F,H,tr,k=>
  let go:=fun(F:Nat->AV)=>bif ZcW E o.dst then
   (aop E (base+i*E.stp) o.op o.type (aev F)).runK H [] fun r rd=>
    bif Zb9 (r.2.map Vb) fz then
     Zdw E ops base fz ρ rest (ZdD F o.dst r.1) (Zad H r.2) (⟨i,rd,r.2.map Vb⟩::tr) k else none else none
  let skip:=fun(F:Nat->AV)=>bif ZcW E o.dst then Zdw E ops base fz ρ rest (ZdD F o.dst Zds) H tr k else none
  match o.guard with
  |none=>go F
  |some (j,want)=>match (ops[j]?).bind (·.dst) with
   |none=>none
   |some g=>match F g with
    | .d .bool b=>bif b then(bif want then go (ZgD F g (.d .bool true)) else skip (ZgD F g (.d .bool true)))
      else(bif want then skip (ZgD F g (.d .bool false)) else go (ZgD F g (.d .bool false)))
    | .tup .nil=>skip F
    |_=>none
def Ze1:List Operand->List Nat
 | []=>[]
 | .tmp t::l=>t::Ze1 l
 |_::l=>Ze1 l
def ZcS(ops:Array Oper)(o:Oper):List Nat:=
 (match o.guard with
  |some (j,_)=>((ops[j]?).bind (·.dst)).toList
  |none=>[])++Ze1 o.op.operands.toList
def Zdd(ops:Array Oper)(a b:Oper):Bool:=
 (match a.dst with
  |some d=> !Zcr d (ZcS ops b) && (match b.dst with|some e=> !Va d e|none=>true)
  |none=>true) &&
 (match b.dst with
  |some d=> !Zcr d (ZcS ops a)
  |none=>true)
def Zc2(i:Nat):List Trc->Option Trc
 | []=>none
 |t::l=>bif Va t.i i then some t else Zc2 i l
def Ziu(tr:List Trc)(i j:Nat):Bool:=
 match Zc2 i tr,Zc2 j tr with
 |some a,some b=>Zb9 a.wr b.rd&&Zb9 a.wr b.wr&&Zb9 b.wr a.rd
 |_,_=>true
def Zli(ops:Array Oper):List (Nat×Nat):=
 let b:=Region.before ops
 (List.range ops.size).flatMap fun j=>(List.range j).filterMap fun i=>if (b.getD j 0).testBit i then none else some (i,j)
def Zmw(ops:Array Oper):Bool:=(Zli ops).all fun p=>match ops[p.1]?,ops[p.2]? with
 |some a,some b=>Zdd ops a b
 |_,_=>true
def ZhR(ops:Array Oper):Bool:=ops.toList.zipIdx.all fun p=>p.1.after.all fun e=> !Region.binds .any e||Nat.blt e.on p.2
def Zfc(ops:Array Oper)(tr:List Trc):Bool:=
 ZhR ops&&Zmw ops&& (tr.all (fun t=>t.wr.isEmpty) || (Zli ops).all fun p=>Ziu tr p.1 p.2)
@[reducible] def ElT:List (Nat×Ty)->Type
 | []=>Unit
 | [(_,t)]=>El t
 | (_,t)::p::l=>El t×ElT (p::l)
def ZmG(F:Nat->AV): (l:List (Nat×Ty))->Option (ElT l)
 | []=>some ()
 | [(n,t)]=>(match F n with
  | .d t' x=>Zax t' t x
  |_=>none)
 | (n,t)::p::l=>(match F n with
  | .d t' x=>(Zax t' t x).bind fun y=>(ZmG F (p::l)).bind fun z=>some (y,z)
  |_=>none)
def inT(F:Nat->AV): (l:List (Nat×Ty))->ElT l->Nat->AV
 | [],_=>F
 | [(n,t)],x=>ZgD F n (.d t x)
 | (n,t)::p::l,x=>inT (ZgD F n (.d t x.1)) (p::l) x.2
def ZmA(l:List Nat)(F:Nat->AV):Nat->AV:=fun k=>bif Zcr k l then .junk else F k
def Ziq(ops:List Oper):List Nat:=ops.filterMap (·.dst)
def Zh3(E:Env)(ops:Array Oper)(draw:Bool)(outs:Option (List (Nat×Ty)))(ρ:Type)(s:AS)(k:AS->Option ρ):Option ρ:=
 let nx:=s.nx+ops.size*E.stp
 match outs with
 |none=>Zdw E ops s.nx s.fz ρ ops.toList.zipIdx s.F s.H [] fun F H tr=>bif !draw||Zfc ops tr then k ⟨F,H,nx,s.fz⟩ else none
 |some l=>(Zdw E ops s.nx s.fz (ElT l) ops.toList.zipIdx s.F s.H [] fun F _ tr=>bif (!draw||Zfc ops tr) &&tr.all (fun t=>t.wr.isEmpty) then ZmG F l else none).bind
   fun x=>k ⟨inT (ZmA (Ziq ops.toList) s.F) l x,s.H,nx,s.fz⟩
structure ZeA where
 roots:List (Nat×Pat)
 fns:List (Nat×FuncId×List Nat):=[]
 kept:List Nat:=[]
 als:List (Nat×Nat):=[]
 kf:List (Nat×Nat×Nat):=[]
 kv:List Nat:=[]
@[reducible] def ElR:List (Nat×Pat)->Type
 | []=>Unit
 | [(_,p)]=>ElP p
 | (_,p)::q::l=>ElP p×ElR (q::l)
def Zl5(F:Nat->AV): (l:List (Nat×Pat))->Acc (ElR l×Ids)
 | []=> .ret ((),Ids.none)
 | [(n,p)]=>ext p (F n)
 | (n,p)::q::l=>(ext p (F n)).bind fun x=>(Zl5 F (q::l)).bind fun y=> .ret ((x.1,y.1),x.2.app y.2)
def Zdm: (l:List (Nat×Pat))->ElR l->Nat->List (Nat×AV) ×List (Nat×Zco) ×Nat
 | [],_,n=>([],[],n)
 | [(m,p)],x,n=>let r:=inj p x n;([(m,r.1)],r.2.1,r.2.2)
 | (m,p)::q::l,x,n=>let r:=inj p x.1 n;let s:=Zdm (q::l) x.2 r.2.2;((m,r.1)::s.1,r.2.1++s.2.1,s.2.2)
def ZgM:List (Nat×AV)->Nat->AV
 | [],_=> .junk
 |p::l,k=>bif Va k p.1 then p.2 else ZgM l k
def ZcL:List (Nat×Zco)->AH
 | [],_=>none
 |p::l,k=>bif Va k p.1 then some p.2 else ZcL l k
def AV.box? :AV->Option Nat
 | .ptr id []=>some id
 |_=>none
def ZcM(F:Nat->AV):AVs->List Nat->Bool
 | .nil,[]=>true
 | .cons v l,n::m=>(match v.box?,(F n).box? with
  |some a,some b=>Va a b
  |_,_=>false) &&ZcM F l m
 |_,_=>false
def ZjI(F:Nat->AV):List (Nat×FuncId×List Nat)->Bool
 | []=>true
 | (n,f,l)::m=>(match F n with
  | .fn f' caps=>Va f' f&&ZcM F caps l
  |_=>false) &&ZjI F m
def Zh5(F:Nat->AV):List (Nat×FuncId×List Nat)->Nat->AV
 | []=>F
 | (n,f,l)::m=>ZgD (Zh5 F m) n (.fn f (AVs.ofList (l.map F)))
def ZjJ(x y:AV):Bool:=match x,y with
 | .vw a, .vw b=>Va a b
 | .mp a, .mp b=>Va a b
 | .ptr a [], .ptr b []=>Va a b
 | .nils, .nils=>true
 |_,_=>false
def ZjM(F:Nat->AV):List (Nat×Nat)->Bool
 | []=>true
 |p::l=>ZjJ (F p.1) (F p.2) &&ZjM F l
def Zh4(F:Nat->AV):List (Nat×Nat)->Nat->AV
 | []=>F
 |p::l=>ZgD (Zh4 F l) p.1 (F p.2)
def AV.boxes:AVs->List Nat
 | .nil=>[]
 | .cons v l=>v.box?.toList++AV.boxes l
def ZbW(s:AS):List Nat->List Nat
 | []=>[]
 |n::l=>(match s.F n with
  | .ptr id []=>[id]
  | .vw id=>[id]
  | .nw id _ _ _=>[id]
  | .mp id=>[id]
  | .fn _ caps=>AV.boxes caps
  |_=>[])++ZbW s l
def ZgE(H:AH)(id:Nat):Bool:=match H id with
 |some (.var _ (.d _ _))=>true
 |some (.vec _ _)=>true
 |some (.map _ _ _)=>true
 |some (.rows _ _ _ none)=>true
 |some (.mrows _ _ _ _ none)=>true
 |some (.rng _ _ _ _)=>true
 |some (.dat _ _)=>true
 |some (.bld _ _ _)=>true
 |_=>false
def Zil(H:AH):AVs->Bool
 | .nil=>true
 | .cons v l=>(match v with
  | .ptr id []=>ZgE H id
  | .dp _ _=>true
  | .d _ _=>true
  |_=>false) &&Zil H l
def ZcR(s:AS):List Nat->Bool
 | []=>true
 |n::l=>(match s.F n with
  | .d _ _=>true
  | .dp _ _=>true
  | .nilr=>true
  | .nils=>true
  | .ptr id []=>ZgE s.H id
  | .vw id=>ZgE s.H id
  | .nw id _ _ _=>ZgE s.H id
  | .mp id=>ZgE s.H id
  | .fn _ caps=>Zil s.H caps
  |_=>false) &&ZcR s l
def Zam(b:AS)(e:ZeA):List Nat:=ZbW b e.kept++b.fz
def Za9(E:Env)(e:ZeA):Env:= {E with ks:=e.kept++(e.kv++E.ks) }
def Zkj(fz:List Nat)(e:ZeA)(s:AS):Option (ElR e.roots):=
 (Zl5 s.F e.roots).runK s.H [] fun r _=>bif r.2.ok fz&&Zb9 r.2.br fz&&ZjI s.F e.fns&&ZjM s.F e.als then some r.1 else none
def Zje(b:AS)(fz:List Nat)(e:ZeA)(x:ElR e.roots):AS:=
 let r:=Zdm e.roots x b.nx
 ⟨Zh4 (Zh5 (fun k=>bif Zcr k e.kept then b.F k else ZgM r.1 k) e.fns) e.als,fun id=>bif Zcr id (Zam b e) then b.H id else ZcL r.2.1 id,r.2.2,fz⟩
def ZiZ(s:AS)(k:Nat×Nat×Nat):Option Nat:=match s.F k.1 with
 | .ptr id []=>(match s.H id with
  |some (.var T (.agg c))=>(match c.nth k.2.1 with
   |some (.vw a)=>bif Va (ZlE T k.2.1) k.2.2 then some a else none
   |_=>none)
  |_=>none)
 |_=>none
def ZmW(b s:AS):List (Nat×Nat×Nat)->Bool
 | []=>true
 |k::l=>(match ZiZ b k,ZiZ s k with
  |some x,some y=>Va x y
  |_,_=>false) &&ZmW b s l
def Zlp(b:AS)(fz:List Nat)(k:Nat×Nat×Nat)(s:AS):AS:=match ZiZ b k,ZiZ s k,s.F k.1 with
 |some a,some a2, .ptr id []=>(match s.H id,s.H a2,b.H a with
  |some (.var T (.agg c)),some (.vec t xs),some (.vec t0 _)=>bif t0==t&& !Va a2 id&& !Va a id&& !Zcr a fz&& !Zcr a2 fz&& !Zcr id fz then
    {s with H:=Za6 (Za6 (Za6 (Za6 s.H a2 none) id none) a (some (.vec t xs))) id (some (.var T (.agg (c.putNth k.2.1 (.vw a))))) } else s
  |_,_,_=>s)
 |_,_,_=>s
def ZlK(b:AS)(fz:List Nat):List (Nat×Nat×Nat)->AS->AS
 | [],s=>s
 |k::l,s=>ZlK b fz l (Zlp b fz k s)
def ZlR(b:AS):List Nat->(Nat->AV)->Nat->AV
 | [],F=>F
 |n::l,F=>ZlR b l (ZgD F n (b.F n))
def Zer(b:AS)(fz:List Nat)(e:ZeA)(s:AS):Option (ElR e.roots):=bif ZmW b s e.kf then Zkj fz e s else none
def Zhm(b:AS)(fz:List Nat)(e:ZeA)(x:ElR e.roots):AS:=
 let s:=ZlK b (Zam b e) e.kf (Zje b fz e x)
 ⟨ZlR b e.kv s.F,s.H,s.nx,fz⟩
abbrev Zep:=List (Ex×ZeA)
@[reducible] def Zdi:Zep->Type
 | []=>Empty
 | [e]=>ElR e.2.roots
 |e::f::l=>ElR e.2.roots ⊕ Zdi (f::l)
def Zdj(b:AS)(fz:List Nat): (J:Zep)->Ex->AS->Option (Zdi J)
 | [],_,_=>none
 | [e],x,s=>bif x.beq e.1 then Zer b fz e.2 s else none
 |e::f::l,x,s=>bif x.beq e.1 then(Zer b fz e.2 s).bind fun y=>some (.inl y) else(Zdj b fz (f::l) x s).bind fun y=>some (.inr y)
def Zdr{ρ:Type}(b:AS): (J:Zep)->Zdi J->(Ex->AS->Option ρ)->Option ρ
 | [],_,_=>none
 | [e],y,k=>k e.1 (Zhm b b.fz e.2 y)
 |e::f::l,y,k=>match y with
  | .inl y=>k e.1 (Zhm b b.fz e.2 y)
  | .inr y=>Zdr b (f::l) y k
def ZeA.slots(e:ZeA):List Nat:=e.roots.map Vb++e.fns.map Vb++e.kept
def ZbH(e:ZeA):Zep->Bool
 | []=>true
 |f::l=>f.2.kept.all (fun n=>Zcr n e.kept) &&f.2.kv.all (fun n=>Zcr n e.kv) &&Zcw f.2.slots&&ZbH e l
inductive ZeG where
 |leaf
 |seq (a b:ZeG)
 |cnd (J:Option (ZeA×Zep)) (a b:ZeG)
 |lp (e:ZeA) (J:Zep) (h:ZeG)
 |lpd (it:Nat) (e:ZeA) (J:Zep) (h:ZeG)
 |reg (outs:List (Nat×Ty))
 |all (n:Nat)
def ZeG.l:ZeG->ZeG
 | .seq a _=>a
 | .cnd _ a _=>a
 | .all n=> .all n
 |_=> .leaf
def ZeG.r:ZeG->ZeG
 | .seq _ b=>b
 | .cnd _ _ b=>b
 | .all n=> .all n
 |_=> .leaf
def ZeG.join:ZeG->Option (ZeA×Zep)
 | .cnd J _ _=>J
 |_=>none
def ZeG.outs:ZeG->Option (List (Nat×Ty))
 | .reg l=>some l
 |_=>none
def ZdF(it:Nat)(s:AS):Nat:=match s.F it with
 | .ptr id []=>(match s.H id with
  |some (.rng _ _ rest _)=>bif rest.isEmpty then 1 else rest.length
  |_=>1)
 |_=>1
def ZhS(E:Env)(ops:Array Oper)(it i:Nat)(ρ:Type)(s:AS)(k:AS->Option ρ):Option ρ:=
 match ops.toList.zipIdx with
 | []=>none
 | (o,_)::l=>(match o.op,o.guard,o.dst with
  | .next (.tmp it') false,none,some d=>bif Va it' it&&ZcW E (some d) then(match s.F it with
   | .ptr id []=>(match s.H id with
    |some (.rng kt vt rest _)=>bif Zcr id s.fz then none else
      bif rest.isEmpty then Zdw E ops s.nx s.fz ρ l (ZdD s.F (some d) (.tup (.cons (.d .bool false) .nil))) s.H [] fun F H _=>k ⟨F,H,s.nx+ops.size*E.stp,s.fz⟩
      else(rest[i]?).bind fun e=>Zdw E ops s.nx s.fz ρ l (ZdD s.F (some d) (.tup (.cons (.d .bool true) (.cons (.d kt e.1) (.cons (.d vt e.2) .nil)))))
       (Za6 s.H id (some (.rng kt vt (rest.eraseIdx i) (some e)))) [] fun F H _=>k ⟨F,H,s.nx+ops.size*E.stp,s.fz⟩
    |_=>none)
   |_=>none) else none
  |_,_,_=>none)
def Zm0{ρ:Type}(f:AS->(Ex->AS->Option ρ)->Option ρ)(k:Ex->AS->Option ρ):Nat->AS->Option ρ
 |0,_=>none
 |n+1,s=>f s fun e s' =>match e with
  | .normal=>Zm0 f k n s'
  |e=>k e s'
noncomputable def ZaZ:Code->ZeG->Env->(ρ:Type)->AS->(Ex->AS->Option ρ)->Option ρ
 | .skip,_,_,_,s,k=>k .normal s
 | .label _,_,_,_,s,k=>k .normal s
 | .scope c,h,E,ρ,s,k=>ZaZ c h E ρ s fun e s' =>match e with
  | .jump _=>none
  |e=>k e s'
 | .goto l,_,_,_,s,k=>k (.jump l) s
 | .region _ ops draw,h,E,ρ,s,k=>Zh3 E ops draw h.outs ρ s (k .normal)
 | .seq a b,h,E,ρ,s,k=>ZaZ a h.l E ρ s fun e s' =>match e with
  | .normal=>ZaZ b h.r E ρ s' k
  |e=>k e s'
 | .cond c a b,h,E,ρ,s,k=>match aev s.F c with
  | .d .bool t=>(match h.join with
   |none=>bif t then ZaZ a h.l E ρ s k else ZaZ b h.r E ρ s k
   |some (e,J)=>bif ZcR s e.kept&&ZbH e J then
     (let s1:AS:= {s with fz:=Zam s e}
      bif t then ZaZ a h.l (Za9 E e) (Zdi J) s1 (Zdj s (Zam s e) J) else ZaZ b h.r (Za9 E e) (Zdi J) s1 (Zdj s (Zam s e) J)).bind fun o=>Zdr s J o k
    else none)
  |_=>none
 | .block id c,h,E,ρ,s,k=>ZaZ c h E ρ s fun e s' =>match e with
  | .exit i=>bif Va i id then k .normal s' else k (.exit i) s'
  |e=>k e s'
 | .loop c,h,E,ρ,s,k=>match h with
  | .all n=>Zm0 (fun s k=>ZaZ c (.all n) E ρ s k) k n s
  | .lp en J hb=>bif ZcR s en.kept&&ZbH en J&&Zcw en.slots then
    (Zer s (Zam s en) en s).bind fun x=>(run (fun y=>ZaZ c hb (Za9 E en) (ElR en.roots ⊕ Zdi J) (Zhm s (Zam s en) en y) fun e s' =>match e with
     | .normal=>(Zer s (Zam s en) en s').bind fun z=>some (.inl z)
     |e=>(Zdj s (Zam s en) J e s').bind fun z=>some (.inr z)) x).bind fun o=>Zdr s J o k
   else none
  | .lpd it en J hb=>(match c with
   | .seq (.region _ ops false) c2=>bif ZcR s en.kept&&ZbH en J&&Zcw en.slots then
     (Zer s (Zam s en) en s).bind fun x=>drun (fun y=>ZdF it (Zhm s (Zam s en) en y)) (fun y i=>ZhS (Za9 E en) ops it i (ElR en.roots ⊕ Zdi J) (Zhm s (Zam s en) en y) fun s1=>ZaZ c2 hb (Za9 E en) (ElR en.roots ⊕ Zdi J) s1 fun e s' =>match e with
      | .normal=>(Zer s (Zam s en) en s').bind fun z=>some (.inl z)
      |e=>(Zdj s (Zam s en) J e s').bind fun z=>some (.inr z)) (fun o=>Zdr s J o k) x
    else none
   |_=>none)
  |_=>none
 | .exit id,_,_,_,s,k=>k (.exit id) s
 | .ret,_,_,_,s,k=>k .ret s
 |_,_,_,_,_,_=>none
def AVs.toF:AVs->Nat->AV
 | .nil,_=>Zds
 | .cons v _,0=>v
 | .cons _ l,n+1=>l.toF n
mutual
def Pat.back:Pat->Bool
 | .own _ k=>k
 | .var _ _=>true
 | .map _ _=>true
 | .rows _ k=>k
 | .mrows _ _=>true
 | .bld _ _ k=>k
 | .agg l=>l.back
 | .fn _ l=>l.back
 |_=>false
def ZaP.back:ZaP->Bool
 | .nil=>false
 | .cons p l=>p.back||l.back
end
mutual
def Zmg: (p:Pat)->ElP p
 | .pd t=>zeroEl t
 | .own _ _=>[]
 | .var _ p=>Zmg p
 | .ro t=>zeroEl t
 | .map _ _=>[]
 | .rows _ _=>[]
 | .mrows _ _=>[]
 | .it _ _=>[]
 | .bld _ _ _=>[]
 | .agg l=>Zkd l
 | .fn _ l=>Zkd l
 | .nilr=>()
 | .nils=>()
 | .any=>()
def Zkd: (l:ZaP)->Zcf l
 | .nil=>()
 | .cons p l=>(Zmg p,Zkd l)
end
mutual
def ZlI: (p:Pat)->Zjh p
 | .own _ true=>[]
 | .own _ false=>()
 | .var _ p=>Zmg p
 | .map _ _=>[]
 | .rows _ true=>[]
 | .rows _ false=>()
 | .mrows _ _=>[]
 | .it _ _=>()
 | .bld _ _ true=>[]
 | .bld _ _ false=>()
 | .agg l=>Zhs l
 | .fn _ l=>Zhs l
 | .pd _=>()
 | .ro _=>()
 | .nilr=>()
 | .nils=>()
 | .any=>()
def Zhs: (l:ZaP)->Zbz l
 | .nil=>()
 | .cons p l=>(ZlI p,Zhs l)
end
def Zjz:Pat->AV->Bool
 | .pd t,v=>v.fits t
 | .own t _,v=>v.fits (.sl t)
 | .rows t _,v=>v.fits (.sl (.sl t))
 | .agg _,_=>true
 | .fn _ _,_=>true
 | .any,_=>false
 | .nils,v=>v.fits (.sl .unit)
 |_,v=>v.fits .ref
mutual
def Zb5: (p:Pat)->AV->Acc (Zjh p×Ids)
 | .own t true, .vw id=> .getH id fun
  |some (.vec t' xs)=> .opt (Zax (.sl t') (.sl t) xs) fun y=> .ret (y,⟨[id],[]⟩)
  |_=> .fail
 | .own _ false,_=> .ret ((),Ids.none)
 | .var t p, .ptr id []=> .getH id fun
  |some (.var t' c)=>bif t' ==t&&p.fits t then(ext p c).bind fun r=> .ret (r.1,⟨id::r.2.tk,r.2.br⟩) else .fail
  |_=> .fail
 | .map kt vt, .mp id=> .getH id fun
  |some (.map k e m)=> .opt (Zax (.sl (.prod k e)) (.sl (.prod kt vt)) m) fun y=> .ret (y,⟨[id],[]⟩)
  |_=> .fail
 | .rows t true, .vw id=> .getH id fun
  |some (.rows t' xs _ none)=> .opt (Zax (.sl (.sl t')) (.sl (.sl t)) xs) fun y=> .ret (y,⟨[id],[]⟩)
  |_=> .fail
 | .rows _ false,_=> .ret ((),Ids.none)
 | .mrows kt t, .mp id=> .getH id fun
  |some (.mrows k t' m _ none)=> .opt (Zax (.sl (.prod k (.sl t'))) (.sl (.prod kt (.sl t))) m) fun y=> .ret (y,⟨[id],[]⟩)
  |_=> .fail
 | .it _ _,_=> .ret ((),Ids.none)
 | .bld T e true, .ptr id []=> .getH id fun
  |some (.bld T' e' bs)=>bif Va T' T&&Va e' e then .ret (bs,⟨[id],[]⟩) else .fail
  |_=> .fail
 | .bld _ _ false,_=> .ret ((),Ids.none)
 | .agg l, .agg vs=>Zfg l vs
 | .fn f l, .fn f' vs=>bif Va f' f then Zfg l vs else .fail
 | .pd _,_=> .ret ((),Ids.none)
 | .ro _,_=> .ret ((),Ids.none)
 | .nilr,_=> .ret ((),Ids.none)
 | .nils,_=> .ret ((),Ids.none)
 | .any,_=> .ret ((),Ids.none)
 |_,_=> .fail
def Zfg: (l:ZaP)->AVs->Acc (Zbz l×Ids)
 | .nil, .nil=> .ret ((),Ids.none)
 | .cons p l, .cons v vs=>bif Zjz p v then(Zb5 p v).bind fun x=>(Zfg l vs).bind fun y=> .ret ((x.1,y.1),x.2.app y.2) else .fail
 |_,_=> .fail
end
def Zfz: (l:ZaP)->AVs->Acc (Zbz l×Ids)
 | .nil,_=> .ret ((),Ids.none)
 | .cons p l, .cons v vs=>bif p.back then(Zb5 p v).bind fun x=>(Zfz l vs).bind fun y=> .ret ((x.1,y.1),x.2.app y.2)
   else(Zfz l vs).bind fun y=> .ret ((ZlI p,y.1),y.2)
 |_,_=> .fail
def ZdJ(E:Env)(s:AS):List ResultVar->Acc AVs
 | []=> .ret .nil
 | .tmp t::l=>(ZdJ E s l).bind fun vs=> .ret (.cons (s.F t) vs)
 | .cell a T::l=> .opt (E.ty T) fun t=>(match s.F a with
  | .ptr id p=> .getH id fun
   |some (.var _ c)=>(ZeF c p).bind fun v=>bif v.fits t&&v.solid then(ZdJ E s l).bind fun vs=> .ret (.cons v vs) else .fail
   |_=> .fail
  |_=> .fail)
def Zbl:ZaP->Nat->List Nat
 | .nil,_=>[]
 | .cons p l,n=>(bif p.back then [n] else [])++Zbl l (n+1)
def ZaP.len:ZaP->Nat
 | .nil=>0
 | .cons _ l=>l.len+1
def Ze5(F:Nat->AV):ZaP->Nat->AVs
 | .nil,_=> .nil
 | .cons _ l,n=> .cons (F n) (Ze5 F l (n+1))
def Zkz(E:Env)(results:Array ResultVar)(args res:ZaP)(fz:List Nat)(e:Ex)(s:AS):Option (Zbz args×Zcf res):=
 match e with
 | .exit _=>none
 | .jump _=>none
 |_=>((ZdJ E s results.toList).bind fun vs=>(Zdl res vs).bind fun r=>(Zfz args (Ze5 s.F args 0)).bind fun o=> .ret ((o.1,r.1),o.2.app r.2)).runK s.H [] fun r _=>
   bif r.2.ok fz&&Zb9 r.2.br fz then some r.1 else none
def ZkF(ks:List Nat)(av:AVs)(H0:AH)(s:AS):List (Nat×Nat×Nat)->Bool
 | []=>true
 |k::l=>(match av.nth k.1,s.F k.1 with
  |some (.ptr id []), .ptr id' []=>(match H0 id,s.H id' with
   |some (.var T (.agg c)),some (.var T' (.agg c'))=>(match c.nth k.2.1,c'.nth k.2.1 with
    |some (.vw a),some (.vw b)=>Va a b&&T' ==T&&Va (ZlE T k.2.1) k.2.2&&Zcr k.1 ks
    |_,_=>false)
   |_,_=>false)
  |_,_=>false) &&ZkF ks av H0 s l
noncomputable def Zgy(E:Env)(body:Code)(results:Array ResultVar)(h:ZeG)(args res:ZaP){α:Type}(pack:Zbz args×Zcf res->α)(x:Zcf args)(kp:List (Nat×Nat×Nat):=[]):Option α:=
 let r:=Zb7 args x 0
 ZaZ body h {E with ks:=Zbl args 0} α ⟨r.1.toF,ZcL r.2.1,r.2.2,[]⟩ fun e s=>
  (Zkz E results args res [] e s).bind fun y=>bif ZkF (Zbl args 0) r.1 (ZcL r.2.1) s kp then some (pack y) else none
def mkE(tys:List (Nat×Ty))(ms:List (Nat×Ty×Ty))(pks:List (Nat×Nat))(rws zxs:List Nat)(m:List (Nat×List Spec))(nt:Nat)(bds:List (Nat×Nat):=[]):Env:=
 {ty:=fun n=>tys.lookup n,mty:=fun n=>ms.lookup n,pk:=fun n=>(pks.lookup n).getD 0,rw:=fun n=>rws.contains n,zx:=fun n=>zxs.contains n,bd:=fun n=>bds.lookup n,specs:=fun n=>(m.lookup n).getD [],nt:=nt,ks:=[] }
def Zb0(f:Func):Code:=match f.body with
 |some b=>b
 |none=> .skip
end Tr
