/- The definitions of the abstract machine, the last part: states, regions, code, loops, functions. Conditions: none. -/
import Derived.Test.YtdpenljjnfmgiaaGreatTrD
open Nat renaming beq ->Va
open Prod renaming fst ->Vb
namespace Tr
open Go
structure AS where
 F:Nat->AV
 H:AH
 nx:Nat
 fz:List Nat
def Zg3(F:Nat->AV)(n:Nat)(v:AV):Nat->AV:=fun k=>bif Va k n then v else F k
def ZdM(F:Nat->AV)(d:Option Nat)(v:AV):Nat->AV:=match d with
 |some n=>Zg3 F n v
 |none=>F
def ZdK:AV:= .tup .nil
def Zad(H:AH):ZaO->AH
 | []=>H
 |p::l=>Zad (Za7 H p.1 p.2) l
inductive Ex where
 |normal
 |exit (id:Nat)
 |ret
 |jump (l:Nat)
def Ex.beq:Ex->Ex->Bool
 | .normal, .normal=>true
 | .exit a, .exit b=>Va a b
 | .ret, .ret=>true
 | .jump a, .jump b=>Va a b
 |_,_=>false
def ZfF{σ τ:Type}(step:σ->Option (σ ⊕ τ)):Nat->σ->Option τ
 |0,_=>none
 |n+1,s=>match step s with
  |some (.inl s')=>ZfF step n s'
  |some (.inr r)=>some r
  |none=>none
open Classical in
noncomputable def run{σ τ:Type}(step:σ->Option (σ ⊕ τ))(s:σ):Option τ:=
 match ZfF step 100000 s with
 |some r=>some r
 |none=>if h: ∃r n,ZfF step n s=some r then some h.choose else none
def Znv{σ τ ρ:Type}(cnt:σ->Nat)(step:σ->Nat->Option (σ ⊕ τ))(k:τ->Option ρ)(z:ρ):Nat->σ->Prop
 |0,_=>False
 |n+1,s=> ∀i,i<cnt s->(∃s',step s i=some (.inl s')/\Znv cnt step k z n s')\/ ∃t,step s i=some (.inr t)/\k t=some z
def ZnA{σ τ ρ:Type}(cnt:σ->Nat)(step:σ->Nat->Option (σ ⊕ τ))(k:τ->Option ρ):Nat->σ->Option ρ
 |0,_=>none
 |n+1,s=>bif Nat.ble (cnt s) 1 then(match step s 0 with
  |some (.inl s')=>ZnA cnt step k n s'
  |some (.inr t)=>k t
  |none=>none) else none
open Classical in
noncomputable def drun{σ τ ρ:Type}(cnt:σ->Nat)(step:σ->Nat->Option (σ ⊕ τ))(k:τ->Option ρ)(s:σ):Option ρ:=
 match ZnA cnt step k 1000 s with
 |some r=>some r
 |none=>if h: ∃z n,Znv cnt step k z n s then some h.choose else none
structure Trc where
 i:Nat
 rd:List Nat
 wr:List Nat
def Zc0(E:Env):Option Nat->Bool
 |some d=>Nat.blt d E.nt&& !Zcu d E.ks
 |none=>true
def ZdI(E:Env)(ops:Array Oper)(base:Nat)(fz:List Nat)(ρ:Type):List (Oper×Nat)->(Nat->AV)->AH->List Trc->((Nat->AV)->AH->List Trc->Option ρ)->Option ρ
 | [],F,H,tr,k=>k F H tr
 | (o,i)::rest,F,H,tr,k=>
  let go:=fun(F:Nat->AV)=>bif Zc0 E o.dst then
   (aop E (base+i*E.stp) o.op o.type (aev F)).runK H [] fun r rd=>
    bif Zb5 (r.2.map Vb) fz then
     ZdI E ops base fz ρ rest (ZdM F o.dst r.1) (Zad H r.2) (⟨i,rd,r.2.map Vb⟩::tr) k else none else none
  let skip:=fun(F:Nat->AV)=>bif Zc0 E o.dst then ZdI E ops base fz ρ rest (ZdM F o.dst ZdK) H tr k else none
  match o.guard with
  |none=>go F
  |some (j,want)=>match (ops[j]?).bind (·.dst) with
   |none=>none
   |some g=>match F g with
    | .d .bool b=>bif b then(bif want then go (Zg3 F g (.d .bool true)) else skip (Zg3 F g (.d .bool true)))
      else(bif want then skip (Zg3 F g (.d .bool false)) else go (Zg3 F g (.d .bool false)))
    | .tup .nil=>skip F
    |_=>none
def Zfv:List Operand->List Nat
 | []=>[]
 | .tmp t::l=>t::Zfv l
 |_::l=>Zfv l
def Zc6(ops:Array Oper)(o:Oper):List Nat:=
 (match o.guard with
  |some (j,_)=>((ops[j]?).bind (·.dst)).toList
  |none=>[])++Zfv o.op.operands.toList
def Zde(ops:Array Oper)(a b:Oper):Bool:=
 (match a.dst with
  |some d=> !Zcu d (Zc6 ops b) && (match b.dst with|some e=> !Va d e|none=>true)
  |none=>true) &&
 (match b.dst with
  |some d=> !Zcu d (Zc6 ops a)
  |none=>true)
def Zc9(i:Nat):List Trc->Option Trc
 | []=>none
 |t::l=>bif Va t.i i then some t else Zc9 i l
def ZiN(tr:List Trc)(i j:Nat):Bool:=
 match Zc9 i tr,Zc9 j tr with
 |some a,some b=>Zb5 a.wr b.rd&&Zb5 a.wr b.wr&&Zb5 b.wr a.rd
 |_,_=>true
def ZlN(ops:Array Oper):List (Nat×Nat):=
 let b:=Region.before ops
 (List.range ops.size).flatMap fun j=>(List.range j).filterMap fun i=>if (b.getD j 0).testBit i then none else some (i,j)
def ZmP(ops:Array Oper):Bool:=(ZlN ops).all fun p=>match ops[p.1]?,ops[p.2]? with
 |some a,some b=>Zde ops a b
 |_,_=>true
def Zis(ops:Array Oper):Bool:=ops.toList.zipIdx.all fun p=>p.1.after.all fun e=> !Region.binds .any e||Nat.blt e.on p.2
def ZeS(ops:Array Oper)(tr:List Trc):Bool:=
 Zis ops&&ZmP ops&& (tr.all (fun t=>t.wr.isEmpty) || (ZlN ops).all fun p=>ZiN tr p.1 p.2)
@[reducible] def ElT:List (Nat×Ty)->Type
 | []=>Unit
 | [(_,t)]=>El t
 | (_,t)::p::l=>El t×ElT (p::l)
def Zns(F:Nat->AV): (l:List (Nat×Ty))->Option (ElT l)
 | []=>some ()
 | [(n,t)]=>(match F n with
  | .d t' x=>Zaz t' t x
  |_=>none)
 | (n,t)::p::l=>(match F n with
  | .d t' x=>(Zaz t' t x).bind fun y=>(Zns F (p::l)).bind fun z=>some (y,z)
  |_=>none)
def inT(F:Nat->AV): (l:List (Nat×Ty))->ElT l->Nat->AV
 | [],_=>F
 | [(n,t)],x=>Zg3 F n (.d t x)
 | (n,t)::p::l,x=>inT (Zg3 F n (.d t x.1)) (p::l) x.2
def Znc(l:List Nat)(F:Nat->AV):Nat->AV:=fun k=>bif Zcu k l then .junk else F k
def ZiG(ops:List Oper):List Nat:=ops.filterMap (·.dst)
def Ziv(E:Env)(ops:Array Oper)(draw:Bool)(outs:Option (List (Nat×Ty)))(ρ:Type)(s:AS)(k:AS->Option ρ):Option ρ:=
 let nx:=s.nx+ops.size*E.stp
 match outs with
 |none=>ZdI E ops s.nx s.fz ρ ops.toList.zipIdx s.F s.H [] fun F H tr=>bif !draw||ZeS ops tr then k ⟨F,H,nx,s.fz⟩ else none
 |some l=>(ZdI E ops s.nx s.fz (ElT l) ops.toList.zipIdx s.F s.H [] fun F _ tr=>bif (!draw||ZeS ops tr) &&tr.all (fun t=>t.wr.isEmpty) then Zns F l else none).bind
   fun x=>k ⟨inT (Znc (ZiG ops.toList) s.F) l x,s.H,nx,s.fz⟩
structure ZeJ where
 roots:List (Nat×Pat)
 fns:List (Nat×FuncId×List Nat):=[]
 kept:List Nat:=[]
 als:List (Nat×Nat):=[]
 kf:List (Nat×Nat×Nat):=[]
 kv:List Nat:=[]
@[reducible] def ElR:List (Nat×Pat)->Type
 | []=>Unit
 | [(_,p)]=>ElP p
 | (_,p)::q::l=>ElP p×ElR (q::l)
def ZmG(F:Nat->AV): (l:List (Nat×Pat))->Acc (ElR l×Ids)
 | []=> .ret ((),Ids.none)
 | [(n,p)]=>ext p (F n)
 | (n,p)::q::l=>(ext p (F n)).bind fun x=>(ZmG F (q::l)).bind fun y=> .ret ((x.1,y.1),x.2.app y.2)
def Zdw: (l:List (Nat×Pat))->ElR l->Nat->List (Nat×AV) ×List (Nat×Zct) ×Nat
 | [],_,n=>([],[],n)
 | [(m,p)],x,n=>let r:=inj p x n;([(m,r.1)],r.2.1,r.2.2)
 | (m,p)::q::l,x,n=>let r:=inj p x.1 n;let s:=Zdw (q::l) x.2 r.2.2;((m,r.1)::s.1,r.2.1++s.2.1,s.2.2)
def ZhT:List (Nat×AV)->Nat->AV
 | [],_=> .junk
 |p::l,k=>bif Va k p.1 then p.2 else ZhT l k
def Zbv:List (Nat×Zct)->AH
 | [],_=>none
 |p::l,k=>bif Va k p.1 then some p.2 else Zbv l k
def AV.box? :AV->Option Nat
 | .ptr id []=>some id
 |_=>none
def ZcI(F:Nat->AV):AVs->List Nat->Bool
 | .nil,[]=>true
 | .cons v l,n::m=>(match v.box?,(F n).box? with
  |some a,some b=>Va a b
  |_,_=>false) &&ZcI F l m
 |_,_=>false
def ZkW(F:Nat->AV):List (Nat×FuncId×List Nat)->Bool
 | []=>true
 | (n,f,l)::m=>(match F n with
  | .fn f' caps=>Va f' f&&ZcI F caps l
  |_=>false) &&ZkW F m
def ZiR(F:Nat->AV):List (Nat×FuncId×List Nat)->Nat->AV
 | []=>F
 | (n,f,l)::m=>Zg3 (ZiR F m) n (.fn f (AVs.ofList (l.map F)))
def ZkE(x y:AV):Bool:=match x,y with
 | .vw a, .vw b=>Va a b
 | .mp a, .mp b=>Va a b
 | .ptr a [], .ptr b []=>Va a b
 | .nils, .nils=>true
 |_,_=>false
def Zlj(F:Nat->AV):List (Nat×Nat)->Bool
 | []=>true
 |p::l=>ZkE (F p.1) (F p.2) &&Zlj F l
def Zi5(F:Nat->AV):List (Nat×Nat)->Nat->AV
 | []=>F
 |p::l=>Zg3 (Zi5 F l) p.1 (F p.2)
def AV.boxes:AVs->List Nat
 | .nil=>[]
 | .cons v l=>v.box?.toList++AV.boxes l
def Zb7(s:AS):List Nat->List Nat
 | []=>[]
 |n::l=>(match s.F n with
  | .ptr id []=>[id]
  | .vw id=>[id]
  | .nw id _ _ _=>[id]
  | .mp id=>[id]
  | .fn _ caps=>AV.boxes caps
  |_=>[])++Zb7 s l
def Zg4(H:AH)(id:Nat):Bool:=match H id with
 |some (.var _ (.d _ _))=>true
 |some (.vec _ _)=>true
 |some (.map _ _ _)=>true
 |some (.rows _ _ _ none)=>true
 |some (.mrows _ _ _ _ none)=>true
 |some (.rng _ _ _ _)=>true
 |some (.dat _ _)=>true
 |some (.bld _ _ _)=>true
 |_=>false
def Zjg(H:AH):AVs->Bool
 | .nil=>true
 | .cons v l=>(match v with
  | .ptr id []=>Zg4 H id
  | .dp _ _=>true
  | .d _ _=>true
  |_=>false) &&Zjg H l
def ZcU(s:AS):List Nat->Bool
 | []=>true
 |n::l=>(match s.F n with
  | .d _ _=>true
  | .dp _ _=>true
  | .nilr=>true
  | .nils=>true
  | .ptr id []=>Zg4 s.H id
  | .vw id=>Zg4 s.H id
  | .nw id _ _ _=>Zg4 s.H id
  | .mp id=>Zg4 s.H id
  | .fn _ caps=>Zjg s.H caps
  |_=>false) &&ZcU s l
def Zam(b:AS)(e:ZeJ):List Nat:=Zb7 b e.kept++b.fz
def Zbb(E:Env)(e:ZeJ):Env:= {E with ks:=e.kept++(e.kv++E.ks) }
def Zk3(fz:List Nat)(e:ZeJ)(s:AS):Option (ElR e.roots):=
 (ZmG s.F e.roots).runK s.H [] fun r _=>bif r.2.ok fz&&Zb5 r.2.br fz&&ZkW s.F e.fns&&Zlj s.F e.als then some r.1 else none
def ZjA(b:AS)(fz:List Nat)(e:ZeJ)(x:ElR e.roots):AS:=
 let r:=Zdw e.roots x b.nx
 ⟨Zi5 (ZiR (fun k=>bif Zcu k e.kept then b.F k else ZhT r.1 k) e.fns) e.als,fun id=>bif Zcu id (Zam b e) then b.H id else Zbv r.2.1 id,r.2.2,fz⟩
def Zjx(s:AS)(k:Nat×Nat×Nat):Option Nat:=match s.F k.1 with
 | .ptr id []=>(match s.H id with
  |some (.var T (.agg c))=>(match c.nth k.2.1 with
   |some (.vw a)=>bif Va (Zmq T k.2.1) k.2.2 then some a else none
   |_=>none)
  |_=>none)
 |_=>none
def Zn2(b s:AS):List (Nat×Nat×Nat)->Bool
 | []=>true
 |k::l=>(match Zjx b k,Zjx s k with
  |some x,some y=>Va x y
  |_,_=>false) &&Zn2 b s l
def Zl8(b:AS)(fz:List Nat)(k:Nat×Nat×Nat)(s:AS):AS:=match Zjx b k,Zjx s k,s.F k.1 with
 |some a,some a2, .ptr id []=>(match s.H id,s.H a2,b.H a with
  |some (.var T (.agg c)),some (.vec t xs),some (.vec t0 _)=>bif t0==t&& !Va a2 id&& !Va a id&& !Zcu a fz&& !Zcu a2 fz&& !Zcu id fz then
    {s with H:=Za7 (Za7 (Za7 (Za7 s.H a2 none) id none) a (some (.vec t xs))) id (some (.var T (.agg (c.putNth k.2.1 (.vw a))))) } else s
  |_,_,_=>s)
 |_,_,_=>s
def Zmt(b:AS)(fz:List Nat):List (Nat×Nat×Nat)->AS->AS
 | [],s=>s
 |k::l,s=>Zmt b fz l (Zl8 b fz k s)
def ZmM(b:AS):List Nat->(Nat->AV)->Nat->AV
 | [],F=>F
 |n::l,F=>ZmM b l (Zg3 F n (b.F n))
def ZeD(b:AS)(fz:List Nat)(e:ZeJ)(s:AS):Option (ElR e.roots):=bif Zn2 b s e.kf then Zk3 fz e s else none
def ZhW(b:AS)(fz:List Nat)(e:ZeJ)(x:ElR e.roots):AS:=
 let s:=Zmt b (Zam b e) e.kf (ZjA b fz e x)
 ⟨ZmM b e.kv s.F,s.H,s.nx,fz⟩
abbrev ZeB:=List (Ex×ZeJ)
@[reducible] def Zdt:ZeB->Type
 | []=>Empty
 | [e]=>ElR e.2.roots
 |e::f::l=>ElR e.2.roots ⊕ Zdt (f::l)
def Zdr(b:AS)(fz:List Nat): (J:ZeB)->Ex->AS->Option (Zdt J)
 | [],_,_=>none
 | [e],x,s=>bif x.beq e.1 then ZeD b fz e.2 s else none
 |e::f::l,x,s=>bif x.beq e.1 then(ZeD b fz e.2 s).bind fun y=>some (.inl y) else(Zdr b fz (f::l) x s).bind fun y=>some (.inr y)
def Zdz{ρ:Type}(b:AS): (J:ZeB)->Zdt J->(Ex->AS->Option ρ)->Option ρ
 | [],_,_=>none
 | [e],y,k=>k e.1 (ZhW b b.fz e.2 y)
 |e::f::l,y,k=>match y with
  | .inl y=>k e.1 (ZhW b b.fz e.2 y)
  | .inr y=>Zdz b (f::l) y k
def ZeJ.slots(e:ZeJ):List Nat:=e.roots.map Vb++e.fns.map Vb++e.kept
def ZbK(e:ZeJ):ZeB->Bool
 | []=>true
 |f::l=>f.2.kept.all (fun n=>Zcu n e.kept) &&f.2.kv.all (fun n=>Zcu n e.kv) &&Zcy f.2.slots&&ZbK e l
inductive ZeR where
 |leaf
 |seq (a b:ZeR)
 |cnd (J:Option (ZeJ×ZeB)) (a b:ZeR)
 |lp (e:ZeJ) (J:ZeB) (h:ZeR)
 |lpd (it:Nat) (e:ZeJ) (J:ZeB) (h:ZeR)
 |reg (outs:List (Nat×Ty))
 |all (n:Nat)
def ZeR.l:ZeR->ZeR
 | .seq a _=>a
 | .cnd _ a _=>a
 | .all n=> .all n
 |_=> .leaf
def ZeR.r:ZeR->ZeR
 | .seq _ b=>b
 | .cnd _ _ b=>b
 | .all n=> .all n
 |_=> .leaf
def ZeR.join:ZeR->Option (ZeJ×ZeB)
 | .cnd J _ _=>J
 |_=>none
def ZeR.outs:ZeR->Option (List (Nat×Ty))
 | .reg l=>some l
 |_=>none
def Zd4(it:Nat)(s:AS):Nat:=match s.F it with
 | .ptr id []=>(match s.H id with
  |some (.rng _ _ rest _)=>bif rest.isEmpty then 1 else rest.length
  |_=>1)
 |_=>1
def Zh0(E:Env)(ops:Array Oper)(it i:Nat)(ρ:Type)(s:AS)(k:AS->Option ρ):Option ρ:=
 match ops.toList.zipIdx with
 | []=>none
 | (o,_)::l=>(match o.op,o.guard,o.dst with
  | .next (.tmp it') false,none,some d=>bif Va it' it&&Zc0 E (some d) then(match s.F it with
   | .ptr id []=>(match s.H id with
    |some (.rng kt vt rest _)=>bif Zcu id s.fz then none else
      bif rest.isEmpty then ZdI E ops s.nx s.fz ρ l (ZdM s.F (some d) (.tup (.cons (.d .bool false) .nil))) s.H [] fun F H _=>k ⟨F,H,s.nx+ops.size*E.stp,s.fz⟩
      else(rest[i]?).bind fun e=>ZdI E ops s.nx s.fz ρ l (ZdM s.F (some d) (.tup (.cons (.d .bool true) (.cons (.d kt e.1) (.cons (.d vt e.2) .nil)))))
       (Za7 s.H id (some (.rng kt vt (rest.eraseIdx i) (some e)))) [] fun F H _=>k ⟨F,H,s.nx+ops.size*E.stp,s.fz⟩
    |_=>none)
   |_=>none) else none
  |_,_,_=>none)
def ZnL{ρ:Type}(f:AS->(Ex->AS->Option ρ)->Option ρ)(k:Ex->AS->Option ρ):Nat->AS->Option ρ
 |0,_=>none
 |n+1,s=>f s fun e s' =>match e with
  | .normal=>ZnL f k n s'
  |e=>k e s'
noncomputable def ZaQ:Code->ZeR->Env->(ρ:Type)->AS->(Ex->AS->Option ρ)->Option ρ
 | .skip,_,_,_,s,k=>k .normal s
 | .label _,_,_,_,s,k=>k .normal s
 | .scope c,h,E,ρ,s,k=>ZaQ c h E ρ s fun e s' =>match e with
  | .jump _=>none
  |e=>k e s'
 | .goto l,_,_,_,s,k=>k (.jump l) s
 | .region _ ops draw,h,E,ρ,s,k=>Ziv E ops draw h.outs ρ s (k .normal)
 | .seq a b,h,E,ρ,s,k=>ZaQ a h.l E ρ s fun e s' =>match e with
  | .normal=>ZaQ b h.r E ρ s' k
  |e=>k e s'
 | .cond c a b,h,E,ρ,s,k=>match aev s.F c with
  | .d .bool t=>(match h.join with
   |none=>bif t then ZaQ a h.l E ρ s k else ZaQ b h.r E ρ s k
   |some (e,J)=>bif ZcU s e.kept&&ZbK e J then
     (let s1:AS:= {s with fz:=Zam s e}
      bif t then ZaQ a h.l (Zbb E e) (Zdt J) s1 (Zdr s (Zam s e) J) else ZaQ b h.r (Zbb E e) (Zdt J) s1 (Zdr s (Zam s e) J)).bind fun o=>Zdz s J o k
    else none)
  |_=>none
 | .block id c,h,E,ρ,s,k=>ZaQ c h E ρ s fun e s' =>match e with
  | .exit i=>bif Va i id then k .normal s' else k (.exit i) s'
  |e=>k e s'
 | .loop c,h,E,ρ,s,k=>match h with
  | .all n=>ZnL (fun s k=>ZaQ c (.all n) E ρ s k) k n s
  | .lp en J hb=>bif ZcU s en.kept&&ZbK en J&&Zcy en.slots then
    (ZeD s (Zam s en) en s).bind fun x=>(run (fun y=>ZaQ c hb (Zbb E en) (ElR en.roots ⊕ Zdt J) (ZhW s (Zam s en) en y) fun e s' =>match e with
     | .normal=>(ZeD s (Zam s en) en s').bind fun z=>some (.inl z)
     |e=>(Zdr s (Zam s en) J e s').bind fun z=>some (.inr z)) x).bind fun o=>Zdz s J o k
   else none
  | .lpd it en J hb=>(match c with
   | .seq (.region _ ops false) c2=>bif ZcU s en.kept&&ZbK en J&&Zcy en.slots then
     (ZeD s (Zam s en) en s).bind fun x=>drun (fun y=>Zd4 it (ZhW s (Zam s en) en y)) (fun y i=>Zh0 (Zbb E en) ops it i (ElR en.roots ⊕ Zdt J) (ZhW s (Zam s en) en y) fun s1=>ZaQ c2 hb (Zbb E en) (ElR en.roots ⊕ Zdt J) s1 fun e s' =>match e with
      | .normal=>(ZeD s (Zam s en) en s').bind fun z=>some (.inl z)
      |e=>(Zdr s (Zam s en) J e s').bind fun z=>some (.inr z)) (fun o=>Zdz s J o k) x
    else none
   |_=>none)
  |_=>none
 | .exit id,_,_,_,s,k=>k (.exit id) s
 | .ret,_,_,_,s,k=>k .ret s
 |_,_,_,_,_,_=>none
def AVs.toF:AVs->Nat->AV
 | .nil,_=>ZdK
 | .cons v _,0=>v
 | .cons _ l,n+1=>l.toF n
mutual
def Pat.back:Pat->Bool
 | .own _ k=>k
 | .var _ _=>true
 | .map _ _=>true
 | .rows _ k=>k
 | .mrows _ _=>true
 | .bld _ _ k=>k
 | .agg l=>l.back
 | .fn _ l=>l.back
 |_=>false
def ZaS.back:ZaS->Bool
 | .nil=>false
 | .cons p l=>p.back||l.back
end
mutual
def ZmA: (p:Pat)->ElP p
 | .pd t=>zeroEl t
 | .own _ _=>[]
 | .var _ p=>ZmA p
 | .ro t=>zeroEl t
 | .map _ _=>[]
 | .rows _ _=>[]
 | .mrows _ _=>[]
 | .it _ _=>[]
 | .bld _ _ _=>[]
 | .agg l=>Zln l
 | .fn _ l=>Zln l
 | .nilr=>()
 | .nils=>()
 | .any=>()
def Zln: (l:ZaS)->Zcb l
 | .nil=>()
 | .cons p l=>(ZmA p,Zln l)
end
mutual
def Zms: (p:Pat)->ZjS p
 | .own _ true=>[]
 | .own _ false=>()
 | .var _ p=>ZmA p
 | .map _ _=>[]
 | .rows _ true=>[]
 | .rows _ false=>()
 | .mrows _ _=>[]
 | .it _ _=>()
 | .bld _ _ true=>[]
 | .bld _ _ false=>()
 | .agg l=>Zio l
 | .fn _ l=>Zio l
 | .pd _=>()
 | .ro _=>()
 | .nilr=>()
 | .nils=>()
 | .any=>()
def Zio: (l:ZaS)->Zbw l
 | .nil=>()
 | .cons p l=>(Zms p,Zio l)
end
def Zkn:Pat->AV->Bool
 | .pd t,v=>v.fits t
 | .own t _,v=>v.fits (.sl t)
 | .rows t _,v=>v.fits (.sl (.sl t))
 | .agg _,_=>true
 | .fn _ _,_=>true
 | .any,_=>false
 | .nils,v=>v.fits (.sl .unit)
 |_,v=>v.fits .ref
mutual
def Zb8: (p:Pat)->AV->Acc (ZjS p×Ids)
 | .own t true, .vw id=> .getH id fun
  |some (.vec t' xs)=> .opt (Zaz (.sl t') (.sl t) xs) fun y=> .ret (y,⟨[id],[]⟩)
  |_=> .fail
 | .own _ false,_=> .ret ((),Ids.none)
 | .var t p, .ptr id []=> .getH id fun
  |some (.var t' c)=>bif t' ==t&&p.fits t then(ext p c).bind fun r=> .ret (r.1,⟨id::r.2.tk,r.2.br⟩) else .fail
  |_=> .fail
 | .map kt vt, .mp id=> .getH id fun
  |some (.map k e m)=> .opt (Zaz (.sl (.prod k e)) (.sl (.prod kt vt)) m) fun y=> .ret (y,⟨[id],[]⟩)
  |_=> .fail
 | .rows t true, .vw id=> .getH id fun
  |some (.rows t' xs _ none)=> .opt (Zaz (.sl (.sl t')) (.sl (.sl t)) xs) fun y=> .ret (y,⟨[id],[]⟩)
  |_=> .fail
 | .rows _ false,_=> .ret ((),Ids.none)
 | .mrows kt t, .mp id=> .getH id fun
  |some (.mrows k t' m _ none)=> .opt (Zaz (.sl (.prod k (.sl t'))) (.sl (.prod kt (.sl t))) m) fun y=> .ret (y,⟨[id],[]⟩)
  |_=> .fail
 | .it _ _,_=> .ret ((),Ids.none)
 | .bld T e true, .ptr id []=> .getH id fun
  |some (.bld T' e' bs)=>bif Va T' T&&Va e' e then .ret (bs,⟨[id],[]⟩) else .fail
  |_=> .fail
 | .bld _ _ false,_=> .ret ((),Ids.none)
 | .agg l, .agg vs=>Zfb l vs
 | .fn f l, .fn f' vs=>bif Va f' f then Zfb l vs else .fail
 | .pd _,_=> .ret ((),Ids.none)
 | .ro _,_=> .ret ((),Ids.none)
 | .nilr,_=> .ret ((),Ids.none)
 | .nils,_=> .ret ((),Ids.none)
 | .any,_=> .ret ((),Ids.none)
 |_,_=> .fail
def Zfb: (l:ZaS)->AVs->Acc (Zbw l×Ids)
 | .nil, .nil=> .ret ((),Ids.none)
 | .cons p l, .cons v vs=>bif Zkn p v then(Zb8 p v).bind fun x=>(Zfb l vs).bind fun y=> .ret ((x.1,y.1),x.2.app y.2) else .fail
 |_,_=> .fail
end
def ZfO: (l:ZaS)->AVs->Acc (Zbw l×Ids)
 | .nil,_=> .ret ((),Ids.none)
 | .cons p l, .cons v vs=>bif p.back then(Zb8 p v).bind fun x=>(ZfO l vs).bind fun y=> .ret ((x.1,y.1),x.2.app y.2)
   else(ZfO l vs).bind fun y=> .ret ((Zms p,y.1),y.2)
 |_,_=> .fail
def ZdS(E:Env)(s:AS):List ResultVar->Acc AVs
 | []=> .ret .nil
 | .tmp t::l=>(ZdS E s l).bind fun vs=> .ret (.cons (s.F t) vs)
 | .cell a T::l=> .opt (E.ty T) fun t=>(match s.F a with
  | .ptr id p=> .getH id fun
   |some (.var _ c)=>(ZeP c p).bind fun v=>bif v.fits t&&v.solid then(ZdS E s l).bind fun vs=> .ret (.cons v vs) else .fail
   |_=> .fail
  |_=> .fail)
def ZaP:ZaS->Nat->List Nat
 | .nil,_=>[]
 | .cons p l,n=>(bif p.back then [n] else [])++ZaP l (n+1)
def ZaS.len:ZaS->Nat
 | .nil=>0
 | .cons _ l=>l.len+1
def Zfm(F:Nat->AV):ZaS->Nat->AVs
 | .nil,_=> .nil
 | .cons _ l,n=> .cons (F n) (Zfm F l (n+1))
def Zei(E:Env)(results:Array ResultVar)(args res:ZaS)(fz:List Nat)(e:Ex)(s:AS):Option (Zbw args×Zcb res):=
 match e with
 | .exit _=>none
 | .jump _=>none
 |_=>((ZdS E s results.toList).bind fun vs=>(Zdu res vs).bind fun r=>(ZfO args (Zfm s.F args 0)).bind fun o=> .ret ((o.1,r.1),o.2.app r.2)).runK s.H [] fun r _=>
   bif r.2.ok fz&&Zb5 r.2.br fz then some r.1 else none
def ZgU(ks:List Nat)(av:AVs)(H0:AH)(s:AS):List (Nat×Nat×Nat)->Bool
 | []=>true
 |k::l=>(match av.nth k.1,s.F k.1 with
  |some (.ptr id []), .ptr id' []=>(match H0 id,s.H id' with
   |some (.var T (.agg c)),some (.var T' (.agg c'))=>(match c.nth k.2.1,c'.nth k.2.1 with
    |some (.vw a),some (.vw b)=>Va a b&&T' ==T&&Va (Zmq T k.2.1) k.2.2&&Zcu k.1 ks
    |_,_=>false)
   |_,_=>false)
  |_,_=>false) &&ZgU ks av H0 s l
noncomputable def ZgE(E:Env)(body:Code)(results:Array ResultVar)(h:ZeR)(args res:ZaS){α:Type}(pack:Zbw args×Zcb res->α)(x:Zcb args)(kp:List (Nat×Nat×Nat):=[]):Option α:=
 let r:=Zbk args x 0
 ZaQ body h {E with ks:=ZaP args 0} α ⟨r.1.toF,Zbv r.2.1,r.2.2,[]⟩ fun e s=>
  (Zei E results args res [] e s).bind fun y=>bif ZgU (ZaP args 0) r.1 (Zbv r.2.1) s kp then some (pack y) else none
def mkE(tys:List (Nat×Ty))(ms:List (Nat×Ty×Ty))(pks:List (Nat×Nat))(rws zxs:List Nat)(m:List (Nat×List Spec))(nt:Nat)(bds:List (Nat×Nat):=[]):Env:=
 {ty:=fun n=>tys.lookup n,mty:=fun n=>ms.lookup n,pk:=fun n=>(pks.lookup n).getD 0,rw:=fun n=>rws.contains n,zx:=fun n=>zxs.contains n,bd:=fun n=>bds.lookup n,specs:=fun n=>(m.lookup n).getD [],nt:=nt,ks:=[] }
def Zbd(f:Func):Code:=match f.body with
 |some b=>b
 |none=> .skip
end Tr
