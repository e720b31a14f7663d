/- The definitions of the abstract machine, the last part: states, regions, code, loops, functions. Conditions: none. -/
import Derived.Test.YtdpenljjnfmgiaaGreatTrD
open Nat renaming beq ->Va
open Prod renaming fst ->Vb
namespace Tr
open Go
structure AS where
 F:Nat->AV
 H:AH
 nx:Nat
 fz:List Nat
def Zig(F:Nat->AV)(n:Nat)(v:AV):Nat->AV:=fun k=>bif Va k n then v else F k
def ZeA(F:Nat->AV)(d:Option Nat)(v:AV):Nat->AV:=match d with
 |some n=>Zig F n v
 |none=>F
def Zez:AV:= .tup .nil
def Zad(H:AH):ZaY->AH
 | []=>H
 |p::l=>Zad (Zbl H p.1 p.2) l
inductive Ex where
 |normal
 |exit (id:Nat)
 |ret
 |jump (l:Nat)
def Ex.beq:Ex->Ex->Bool
 | .normal, .normal=>true
 | .exit a, .exit b=>Va a b
 | .ret, .ret=>true
 | .jump a, .jump b=>Va a b
 |_,_=>false
def ZgN{σ τ:Type}(step:σ->Option (σ ⊕ τ)):Nat->σ->Option τ
 |0,_=>none
 |n+1,s=>match step s with
  |some (.inl s')=>ZgN step n s'
  |some (.inr r)=>some r
  |none=>none
open Classical in
noncomputable def run{σ τ:Type}(step:σ->Option (σ ⊕ τ))(s:σ):Option τ:=
 match ZgN step 100000 s with
 |some r=>some r
 |none=>if h: ∃r n,ZgN step n s=some r then some h.choose else none
def Zlb{σ τ ρ:Type}(cnt:σ->Nat)(step:σ->Nat->Option (σ ⊕ τ))(k:τ->Option ρ)(z:ρ):Nat->σ->Prop
 |0,_=>False
 |n+1,s=> ∀i,i<cnt s->(∃s',step s i=some (.inl s')/\Zlb cnt step k z n s')\/ ∃t,step s i=some (.inr t)/\k t=some z
def ZqC{σ τ ρ:Type}(cnt:σ->Nat)(step:σ->Nat->Option (σ ⊕ τ))(k:τ->Option ρ):Nat->σ->Option ρ
 |0,_=>none
 |n+1,s=>bif Nat.ble (cnt s) 1 then(match step s 0 with
  |some (.inl s')=>ZqC cnt step k n s'
  |some (.inr t)=>k t
  |none=>none) else none
open Classical in
noncomputable def drun{σ τ ρ:Type}(cnt:σ->Nat)(step:σ->Nat->Option (σ ⊕ τ))(k:τ->Option ρ)(s:σ):Option ρ:=
 match ZqC cnt step k 1000 s with
 |some r=>some r
 |none=>if h: ∃z n,Zlb cnt step k z n s then some h.choose else none
structure Trc where
 i:Nat
 rd:List Nat
 wr:List Nat
def ZdG(E:Env):Option Nat->Bool
 |some d=>Nat.blt d E.nt&& !Zdb d E.ks
 |none=>true
def Zep(E:Env)(ops:Array Oper)(base:Nat)(fz:List Nat)(ρ:Type):List (Oper×Nat)->(Nat->AV)->AH->List Trc->((Nat->AV)->AH->List Trc->Option ρ)->Option ρ
 | [],F,H,tr,k=>k F H tr
 | (o,i)::rest,F,H,tr,k=>
  let go:=fun(F:Nat->AV)=>bif ZdG E o.dst then
   (aop E (base+i*E.stp) o.op o.type (aev F)).runK H [] fun r rd=>
    bif ZcA (r.2.map Vb) fz then
     Zep E ops base fz ρ rest (ZeA F o.dst r.1) (Zad H r.2) (⟨i,rd,r.2.map Vb⟩::tr) k else none else none
  let skip:=fun(F:Nat->AV)=>bif ZdG E o.dst then Zep E ops base fz ρ rest (ZeA F o.dst Zez) H tr k else none
  match o.guard with
  |none=>go F
  |some (j,want)=>match (ops[j]?).bind (·.dst) with
   |none=>none
   |some g=>match F g with
    | .d .bool b=>bif b then(bif want then go (Zig F g (.d .bool true)) else skip (Zig F g (.d .bool true)))
      else(bif want then skip (Zig F g (.d .bool false)) else go (Zig F g (.d .bool false)))
    | .tup .nil=>skip F
    |_=>none
def Zgb:List Operand->List Nat
 | []=>[]
 | .tmp t::l=>t::Zgb l
 |_::l=>Zgb l
def ZdV(ops:Array Oper)(o:Oper):List Nat:=
 (match o.guard with
  |some (j,_)=>((ops[j]?).bind (·.dst)).toList
  |none=>[])++Zgb o.op.operands.toList
def Zd4(ops:Array Oper)(a b:Oper):Bool:=
 (match a.dst with
  |some d=> !Zdb d (ZdV ops b) && (match b.dst with|some e=> !Va d e|none=>true)
  |none=>true) &&
 (match b.dst with
  |some d=> !Zdb d (ZdV ops a)
  |none=>true)
def ZdH(i:Nat):List Trc->Option Trc
 | []=>none
 |t::l=>bif Va t.i i then some t else ZdH i l
def Zkk(tr:List Trc)(i j:Nat):Bool:=
 match ZdH i tr,ZdH j tr with
 |some a,some b=>ZcA a.wr b.rd&&ZcA a.wr b.wr&&ZcA b.wr a.rd
 |_,_=>true
def Zn2(ops:Array Oper):List (Nat×Nat):=
 let b:=Region.before ops
 (List.range ops.size).flatMap fun j=>(List.range j).filterMap fun i=>if (b.getD j 0).testBit i then none else some (i,j)
def ZpA(ops:Array Oper):Bool:=(Zn2 ops).all fun p=>match ops[p.1]?,ops[p.2]? with
 |some a,some b=>Zd4 ops a b
 |_,_=>true
def Zj5(ops:Array Oper):Bool:=ops.toList.zipIdx.all fun p=>p.1.after.all fun e=> !Region.binds .any e||Nat.blt e.on p.2
def Zgz(ops:Array Oper)(tr:List Trc):Bool:=
 Zj5 ops&&ZpA ops&& (tr.all (fun t=>t.wr.isEmpty) || (Zn2 ops).all fun p=>Zkk tr p.1 p.2)
@[reducible] def ElT:List (Nat×Ty)->Type
 | []=>Unit
 | [(_,t)]=>El t
 | (_,t)::p::l=>El t×ElT (p::l)
def Zqe(F:Nat->AV): (l:List (Nat×Ty))->Option (ElT l)
 | []=>some ()
 | [(n,t)]=>(match F n with
  | .d t' x=>ZaE t' t x
  |_=>none)
 | (n,t)::p::l=>(match F n with
  | .d t' x=>(ZaE t' t x).bind fun y=>(Zqe F (p::l)).bind fun z=>some (y,z)
  |_=>none)
def inT(F:Nat->AV): (l:List (Nat×Ty))->ElT l->Nat->AV
 | [],_=>F
 | [(n,t)],x=>Zig F n (.d t x)
 | (n,t)::p::l,x=>inT (Zig F n (.d t x.1)) (p::l) x.2
def Zpx(l:List Nat)(F:Nat->AV):Nat->AV:=fun k=>bif Zdb k l then .junk else F k
def ZkB(ops:List Oper):List Nat:=ops.filterMap (·.dst)
def ZjB(E:Env)(ops:Array Oper)(draw:Bool)(outs:Option (List (Nat×Ty)))(ρ:Type)(s:AS)(k:AS->Option ρ):Option ρ:=
 let nx:=s.nx+ops.size*E.stp
 match outs with
 |none=>Zep E ops s.nx s.fz ρ ops.toList.zipIdx s.F s.H [] fun F H tr=>bif !draw||Zgz ops tr then k ⟨F,H,nx,s.fz⟩ else none
 |some l=>(Zep E ops s.nx s.fz (ElT l) ops.toList.zipIdx s.F s.H [] fun F _ tr=>bif (!draw||Zgz ops tr) &&tr.all (fun t=>t.wr.isEmpty) then Zqe F l else none).bind
   fun x=>k ⟨inT (Zpx (ZkB ops.toList) s.F) l x,s.H,nx,s.fz⟩
structure ZfQ where
 roots:List (Nat×Pat)
 fns:List (Nat×FuncId×List Nat):=[]
 kept:List Nat:=[]
 als:List (Nat×Nat):=[]
 kf:List (Nat×Nat×Nat):=[]
 kv:List Nat:=[]
@[reducible] def ElR:List (Nat×Pat)->Type
 | []=>Unit
 | [(_,p)]=>ElP p
 | (_,p)::q::l=>ElP p×ElR (q::l)
def Zpm(F:Nat->AV): (l:List (Nat×Pat))->Acc (ElR l×Ids)
 | []=> .ret ((),Ids.none)
 | [(n,p)]=>ext p (F n)
 | (n,p)::q::l=>(ext p (F n)).bind fun x=>(Zpm F (q::l)).bind fun y=> .ret ((x.1,y.1),x.2.app y.2)
def Zek: (l:List (Nat×Pat))->ElR l->Nat->List (Nat×AV) ×List (Nat×Zc0) ×Nat
 | [],_,n=>([],[],n)
 | [(m,p)],x,n=>let r:=inj p x n;([(m,r.1)],r.2.1,r.2.2)
 | (m,p)::q::l,x,n=>let r:=inj p x.1 n;let s:=Zek (q::l) x.2 r.2.2;((m,r.1)::s.1,r.2.1++s.2.1,s.2.2)
def Zii:List (Nat×AV)->Nat->AV
 | [],_=> .junk
 |p::l,k=>bif Va k p.1 then p.2 else Zii l k
def Zdl:List (Nat×Zc0)->AH
 | [],_=>none
 |p::l,k=>bif Va k p.1 then some p.2 else Zdl l k
def AV.box? :AV->Option Nat
 | .ptr id []=>some id
 |_=>none
def Zdp(F:Nat->AV):AVs->List Nat->Bool
 | .nil,[]=>true
 | .cons v l,n::m=>(match v.box?,(F n).box? with
  |some a,some b=>Va a b
  |_,_=>false) &&Zdp F l m
 |_,_=>false
def ZlW(F:Nat->AV):List (Nat×FuncId×List Nat)->Bool
 | []=>true
 | (n,f,l)::m=>(match F n with
  | .fn f' caps=>Va f' f&&Zdp F caps l
  |_=>false) &&ZlW F m
def ZkS(F:Nat->AV):List (Nat×FuncId×List Nat)->Nat->AV
 | []=>F
 | (n,f,l)::m=>Zig (ZkS F m) n (.fn f (AVs.ofList (l.map F)))
def ZmU(x y:AV):Bool:=match x,y with
 | .vw a, .vw b=>Va a b
 | .mp a, .mp b=>Va a b
 | .ptr a [], .ptr b []=>Va a b
 | .nils, .nils=>true
 |_,_=>false
def ZmW(F:Nat->AV):List (Nat×Nat)->Bool
 | []=>true
 |p::l=>ZmU (F p.1) (F p.2) &&ZmW F l
def Zkp(F:Nat->AV):List (Nat×Nat)->Nat->AV
 | []=>F
 |p::l=>Zig (Zkp F l) p.1 (F p.2)
def AV.boxes:AVs->List Nat
 | .nil=>[]
 | .cons v l=>v.box?.toList++AV.boxes l
def Zcu(s:AS):List Nat->List Nat
 | []=>[]
 |n::l=>(match s.F n with
  | .ptr id []=>[id]
  | .vw id=>[id]
  | .nw id _ _ _=>[id]
  | .mp id=>[id]
  | .fn _ caps=>AV.boxes caps
  |_=>[])++Zcu s l
def Zih(H:AH)(id:Nat):Bool:=match H id with
 |some (.var _ (.d _ _))=>true
 |some (.vec _ _)=>true
 |some (.map _ _ _)=>true
 |some (.rows _ _ _ none)=>true
 |some (.mrows _ _ _ _ none)=>true
 |some (.rng _ _ _ _)=>true
 |some (.dat _ _)=>true
 |some (.bld _ _ _)=>true
 |_=>false
def Zkn(H:AH):AVs->Bool
 | .nil=>true
 | .cons v l=>(match v with
  | .ptr id []=>Zih H id
  | .dp _ _=>true
  | .d _ _=>true
  |_=>false) &&Zkn H l
def ZdA(s:AS):List Nat->Bool
 | []=>true
 |n::l=>(match s.F n with
  | .d _ _=>true
  | .dp _ _=>true
  | .nilr=>true
  | .nils=>true
  | .ptr id []=>Zih s.H id
  | .vw id=>Zih s.H id
  | .nw id _ _ _=>Zih s.H id
  | .mp id=>Zih s.H id
  | .fn _ caps=>Zkn s.H caps
  |_=>false) &&ZdA s l
def Zao(b:AS)(e:ZfQ):List Nat:=Zcu b e.kept++b.fz
def Zbn(E:Env)(e:ZfQ):Env:= {E with ks:=e.kept++(e.kv++E.ks) }
def Zl8(fz:List Nat)(e:ZfQ)(s:AS):Option (ElR e.roots):=
 (Zpm s.F e.roots).runK s.H [] fun r _=>bif r.2.ok fz&&ZcA r.2.br fz&&ZlW s.F e.fns&&ZmW s.F e.als then some r.1 else none
def Zlr(b:AS)(fz:List Nat)(e:ZfQ)(x:ElR e.roots):AS:=
 let r:=Zek e.roots x b.nx
 ⟨Zkp (ZkS (fun k=>bif Zdb k e.kept then b.F k else Zii r.1 k) e.fns) e.als,fun id=>bif Zdb id (Zao b e) then b.H id else Zdl r.2.1 id,r.2.2,fz⟩
def ZlF(s:AS)(k:Nat×Nat×Nat):Option Nat:=match s.F k.1 with
 | .ptr id []=>(match s.H id with
  |some (.var T (.agg c))=>(match c.nth k.2.1 with
   |some (.vw a)=>bif Va (ZoZ T k.2.1) k.2.2 then some a else none
   |_=>none)
  |_=>none)
 |_=>none
def ZqT(b s:AS):List (Nat×Nat×Nat)->Bool
 | []=>true
 |k::l=>(match ZlF b k,ZlF s k with
  |some x,some y=>Va x y
  |_,_=>false) &&ZqT b s l
def ZoT(b:AS)(fz:List Nat)(k:Nat×Nat×Nat)(s:AS):AS:=match ZlF b k,ZlF s k,s.F k.1 with
 |some a,some a2, .ptr id []=>(match s.H id,s.H a2,b.H a with
  |some (.var T (.agg c)),some (.vec t xs),some (.vec t0 _)=>bif t0==t&& !Va a2 id&& !Va a id&& !Zdb a fz&& !Zdb a2 fz&& !Zdb id fz then
    {s with H:=Zbl (Zbl (Zbl (Zbl s.H a2 none) id none) a (some (.vec t xs))) id (some (.var T (.agg (c.putNth k.2.1 (.vw a))))) } else s
  |_,_,_=>s)
 |_,_,_=>s
def Zpe(b:AS)(fz:List Nat):List (Nat×Nat×Nat)->AS->AS
 | [],s=>s
 |k::l,s=>Zpe b fz l (ZoT b fz k s)
def ZpT(b:AS):List Nat->(Nat->AV)->Nat->AV
 | [],F=>F
 |n::l,F=>ZpT b l (Zig F n (b.F n))
def ZfH(b:AS)(fz:List Nat)(e:ZfQ)(s:AS):Option (ElR e.roots):=bif ZqT b s e.kf then Zl8 fz e s else none
def Zjg(b:AS)(fz:List Nat)(e:ZfQ)(x:ElR e.roots):AS:=
 let s:=Zpe b (Zao b e) e.kf (Zlr b fz e x)
 ⟨ZpT b e.kv s.F,s.H,s.nx,fz⟩
abbrev ZfI:=List (Ex×ZfQ)
@[reducible] def Zei:ZfI->Type
 | []=>Empty
 | [e]=>ElR e.2.roots
 |e::f::l=>ElR e.2.roots ⊕ Zei (f::l)
def Zeg(b:AS)(fz:List Nat): (J:ZfI)->Ex->AS->Option (Zei J)
 | [],_,_=>none
 | [e],x,s=>bif x.beq e.1 then ZfH b fz e.2 s else none
 |e::f::l,x,s=>bif x.beq e.1 then(ZfH b fz e.2 s).bind fun y=>some (.inl y) else(Zeg b fz (f::l) x s).bind fun y=>some (.inr y)
def Zel{ρ:Type}(b:AS): (J:ZfI)->Zei J->(Ex->AS->Option ρ)->Option ρ
 | [],_,_=>none
 | [e],y,k=>k e.1 (Zjg b b.fz e.2 y)
 |e::f::l,y,k=>match y with
  | .inl y=>k e.1 (Zjg b b.fz e.2 y)
  | .inr y=>Zel b (f::l) y k
def ZfQ.slots(e:ZfQ):List Nat:=e.roots.map Vb++e.fns.map Vb++e.kept
def Zb0(e:ZfQ):ZfI->Bool
 | []=>true
 |f::l=>f.2.kept.all (fun n=>Zdb n e.kept) &&f.2.kv.all (fun n=>Zdb n e.kv) &&Zdc f.2.slots&&Zb0 e l
inductive ZfT where
 |leaf
 |seq (a b:ZfT)
 |cnd (J:Option (ZfQ×ZfI)) (a b:ZfT)
 |lp (e:ZfQ) (J:ZfI) (h:ZfT)
 |lpd (it:Nat) (e:ZfQ) (J:ZfI) (h:ZfT)
 |reg (outs:List (Nat×Ty))
 |all (n:Nat)
def ZfT.l:ZfT->ZfT
 | .seq a _=>a
 | .cnd _ a _=>a
 | .all n=> .all n
 |_=> .leaf
def ZfT.r:ZfT->ZfT
 | .seq _ b=>b
 | .cnd _ _ b=>b
 | .all n=> .all n
 |_=> .leaf
def ZfT.join:ZfT->Option (ZfQ×ZfI)
 | .cnd J _ _=>J
 |_=>none
def ZfT.outs:ZfT->Option (List (Nat×Ty))
 | .reg l=>some l
 |_=>none
def ZeK(it:Nat)(s:AS):Nat:=match s.F it with
 | .ptr id []=>(match s.H id with
  |some (.rng _ _ rest _)=>bif rest.isEmpty then 1 else rest.length
  |_=>1)
 |_=>1
def Zj4(E:Env)(ops:Array Oper)(it i:Nat)(ρ:Type)(s:AS)(k:AS->Option ρ):Option ρ:=
 match ops.toList.zipIdx with
 | []=>none
 | (o,_)::l=>(match o.op,o.guard,o.dst with
  | .next (.tmp it') false,none,some d=>bif Va it' it&&ZdG E (some d) then(match s.F it with
   | .ptr id []=>(match s.H id with
    |some (.rng kt vt rest _)=>bif Zdb id s.fz then none else
      bif rest.isEmpty then Zep E ops s.nx s.fz ρ l (ZeA s.F (some d) (.tup (.cons (.d .bool false) .nil))) s.H [] fun F H _=>k ⟨F,H,s.nx+ops.size*E.stp,s.fz⟩
      else(rest[i]?).bind fun e=>Zep E ops s.nx s.fz ρ l (ZeA s.F (some d) (.tup (.cons (.d .bool true) (.cons (.d kt e.1) (.cons (.d vt e.2) .nil)))))
       (Zbl s.H id (some (.rng kt vt (rest.eraseIdx i) (some e)))) [] fun F H _=>k ⟨F,H,s.nx+ops.size*E.stp,s.fz⟩
    |_=>none)
   |_=>none) else none
  |_,_,_=>none)
def Zqr{ρ:Type}(f:AS->(Ex->AS->Option ρ)->Option ρ)(k:Ex->AS->Option ρ):Nat->AS->Option ρ
 |0,_=>none
 |n+1,s=>f s fun e s' =>match e with
  | .normal=>Zqr f k n s'
  |e=>k e s'
noncomputable def Zbd:Code->ZfT->Env->(ρ:Type)->AS->(Ex->AS->Option ρ)->Option ρ
 | .skip,_,_,_,s,k=>k .normal s
 | .label _,_,_,_,s,k=>k .normal s
 | .scope c,h,E,ρ,s,k=>Zbd c h E ρ s fun e s' =>match e with
  | .jump _=>none
  |e=>k e s'
 | .goto l,_,_,_,s,k=>k (.jump l) s
 | .region _ ops draw,h,E,ρ,s,k=>ZjB E ops draw h.outs ρ s (k .normal)
 | .seq a b,h,E,ρ,s,k=>Zbd a h.l E ρ s fun e s' =>match e with
  | .normal=>Zbd b h.r E ρ s' k
  |e=>k e s'
 | .cond c a b,h,E,ρ,s,k=>match aev s.F c with
  | .d .bool t=>(match h.join with
   |none=>bif t then Zbd a h.l E ρ s k else Zbd b h.r E ρ s k
   |some (e,J)=>bif ZdA s e.kept&&Zb0 e J then
     (let s1:AS:= {s with fz:=Zao s e}
      bif t then Zbd a h.l (Zbn E e) (Zei J) s1 (Zeg s (Zao s e) J) else Zbd b h.r (Zbn E e) (Zei J) s1 (Zeg s (Zao s e) J)).bind fun o=>Zel s J o k
    else none)
  |_=>none
 | .block id c,h,E,ρ,s,k=>Zbd c h E ρ s fun e s' =>match e with
  | .exit i=>bif Va i id then k .normal s' else k (.exit i) s'
  |e=>k e s'
 | .loop c,h,E,ρ,s,k=>match h with
  | .all n=>Zqr (fun s k=>Zbd c (.all n) E ρ s k) k n s
  | .lp en J hb=>bif ZdA s en.kept&&Zb0 en J&&Zdc en.slots then
    (ZfH s (Zao s en) en s).bind fun x=>(run (fun y=>Zbd c hb (Zbn E en) (ElR en.roots ⊕ Zei J) (Zjg s (Zao s en) en y) fun e s' =>match e with
     | .normal=>(ZfH s (Zao s en) en s').bind fun z=>some (.inl z)
     |e=>(Zeg s (Zao s en) J e s').bind fun z=>some (.inr z)) x).bind fun o=>Zel s J o k
   else none
  | .lpd it en J hb=>(match c with
   | .seq (.region _ ops false) c2=>bif ZdA s en.kept&&Zb0 en J&&Zdc en.slots then
     (ZfH s (Zao s en) en s).bind fun x=>drun (fun y=>ZeK it (Zjg s (Zao s en) en y)) (fun y i=>Zj4 (Zbn E en) ops it i (ElR en.roots ⊕ Zei J) (Zjg s (Zao s en) en y) fun s1=>Zbd c2 hb (Zbn E en) (ElR en.roots ⊕ Zei J) s1 fun e s' =>match e with
      | .normal=>(ZfH s (Zao s en) en s').bind fun z=>some (.inl z)
      |e=>(Zeg s (Zao s en) J e s').bind fun z=>some (.inr z)) (fun o=>Zel s J o k) x
    else none
   |_=>none)
  |_=>none
 | .exit id,_,_,_,s,k=>k (.exit id) s
 | .ret,_,_,_,s,k=>k .ret s
 |_,_,_,_,_,_=>none
def AVs.toF:AVs->Nat->AV
 | .nil,_=>Zez
 | .cons v _,0=>v
 | .cons _ l,n+1=>l.toF n
mutual
def Pat.back:Pat->Bool
 | .own _ k=>k
 | .var _ _=>true
 | .map _ _=>true
 | .rows _ k=>k
 | .mrows _ _=>true
 | .bld _ _ k=>k
 | .agg l=>l.back
 | .fn _ l=>l.back
 |_=>false
def Za5.back:Za5->Bool
 | .nil=>false
 | .cons p l=>p.back||l.back
end
mutual
def Zpz: (p:Pat)->ElP p
 | .pd t=>zeroEl t
 | .own _ _=>[]
 | .var _ p=>Zpz p
 | .ro t=>zeroEl t
 | .map _ _=>[]
 | .rows _ _=>[]
 | .mrows _ _=>[]
 | .it _ _=>[]
 | .bld _ _ _=>[]
 | .agg l=>ZmF l
 | .fn _ l=>ZmF l
 | .nilr=>()
 | .nils=>()
 | .any=>()
def ZmF: (l:Za5)->ZcJ l
 | .nil=>()
 | .cons p l=>(Zpz p,ZmF l)
end
mutual
def Zpd: (p:Pat)->ZlS p
 | .own _ true=>[]
 | .own _ false=>()
 | .var _ p=>Zpz p
 | .map _ _=>[]
 | .rows _ true=>[]
 | .rows _ false=>()
 | .mrows _ _=>[]
 | .it _ _=>()
 | .bld _ _ true=>[]
 | .bld _ _ false=>()
 | .agg l=>Zjx l
 | .fn _ l=>Zjx l
 | .pd _=>()
 | .ro _=>()
 | .nilr=>()
 | .nils=>()
 | .any=>()
def Zjx: (l:Za5)->ZbQ l
 | .nil=>()
 | .cons p l=>(Zpd p,Zjx l)
end
def ZmG:Pat->AV->Bool
 | .pd t,v=>v.fits t
 | .own t _,v=>v.fits (.sl t)
 | .rows t _,v=>v.fits (.sl (.sl t))
 | .agg _,_=>true
 | .fn _ _,_=>true
 | .any,_=>false
 | .nils,v=>v.fits (.sl .unit)
 |_,v=>v.fits .ref
mutual
def ZcF: (p:Pat)->AV->Acc (ZlS p×Ids)
 | .own t true, .vw id=> .getH id fun
  |some (.vec t' xs)=> .opt (ZaE (.sl t') (.sl t) xs) fun y=> .ret (y,⟨[id],[]⟩)
  |_=> .fail
 | .own _ false,_=> .ret ((),Ids.none)
 | .var t p, .ptr id []=> .getH id fun
  |some (.var t' c)=>bif t' ==t&&p.fits t then(ext p c).bind fun r=> .ret (r.1,⟨id::r.2.tk,r.2.br⟩) else .fail
  |_=> .fail
 | .map kt vt, .mp id=> .getH id fun
  |some (.map k e m)=> .opt (ZaE (.sl (.prod k e)) (.sl (.prod kt vt)) m) fun y=> .ret (y,⟨[id],[]⟩)
  |_=> .fail
 | .rows t true, .vw id=> .getH id fun
  |some (.rows t' xs _ none)=> .opt (ZaE (.sl (.sl t')) (.sl (.sl t)) xs) fun y=> .ret (y,⟨[id],[]⟩)
  |_=> .fail
 | .rows _ false,_=> .ret ((),Ids.none)
 | .mrows kt t, .mp id=> .getH id fun
  |some (.mrows k t' m _ none)=> .opt (ZaE (.sl (.prod k (.sl t'))) (.sl (.prod kt (.sl t))) m) fun y=> .ret (y,⟨[id],[]⟩)
  |_=> .fail
 | .it _ _,_=> .ret ((),Ids.none)
 | .bld T e true, .ptr id []=> .getH id fun
  |some (.bld T' e' bs)=>bif Va T' T&&Va e' e then .ret (bs,⟨[id],[]⟩) else .fail
  |_=> .fail
 | .bld _ _ false,_=> .ret ((),Ids.none)
 | .agg l, .agg vs=>ZfW l vs
 | .fn f l, .fn f' vs=>bif Va f' f then ZfW l vs else .fail
 | .pd _,_=> .ret ((),Ids.none)
 | .ro _,_=> .ret ((),Ids.none)
 | .nilr,_=> .ret ((),Ids.none)
 | .nils,_=> .ret ((),Ids.none)
 | .any,_=> .ret ((),Ids.none)
 |_,_=> .fail
def ZfW: (l:Za5)->AVs->Acc (ZbQ l×Ids)
 | .nil, .nil=> .ret ((),Ids.none)
 | .cons p l, .cons v vs=>bif ZmG p v then(ZcF p v).bind fun x=>(ZfW l vs).bind fun y=> .ret ((x.1,y.1),x.2.app y.2) else .fail
 |_,_=> .fail
end
def Zhe: (l:Za5)->AVs->Acc (ZbQ l×Ids)
 | .nil,_=> .ret ((),Ids.none)
 | .cons p l, .cons v vs=>bif p.back then(ZcF p v).bind fun x=>(Zhe l vs).bind fun y=> .ret ((x.1,y.1),x.2.app y.2)
   else(Zhe l vs).bind fun y=> .ret ((Zpd p,y.1),y.2)
 |_,_=> .fail
def ZeO(E:Env)(s:AS):List ResultVar->Acc AVs
 | []=> .ret .nil
 | .tmp t::l=>(ZeO E s l).bind fun vs=> .ret (.cons (s.F t) vs)
 | .cell a T::l=> .opt (E.ty T) fun t=>(match s.F a with
  | .ptr id p=> .getH id fun
   |some (.var _ c)=>(ZgG c p).bind fun v=>bif v.fits t&&v.solid then(ZeO E s l).bind fun vs=> .ret (.cons v vs) else .fail
   |_=> .fail
  |_=> .fail)
def ZbB:Za5->Nat->List Nat
 | .nil,_=>[]
 | .cons p l,n=>(bif p.back then [n] else [])++ZbB l (n+1)
def Za5.len:Za5->Nat
 | .nil=>0
 | .cons _ l=>l.len+1
def Zgf(F:Nat->AV):Za5->Nat->AVs
 | .nil,_=> .nil
 | .cons _ l,n=> .cons (F n) (Zgf F l (n+1))
def ZlX(E:Env)(results:Array ResultVar)(args res:Za5)(fz:List Nat)(e:Ex)(s:AS):Option (ZbQ args×ZcJ res):=
 match e with
 | .exit _=>none
 | .jump _=>none
 |_=>((ZeO E s results.toList).bind fun vs=>(Zef res vs).bind fun r=>(Zhe args (Zgf s.F args 0)).bind fun o=> .ret ((o.1,r.1),o.2.app r.2)).runK s.H [] fun r _=>
   bif r.2.ok fz&&ZcA r.2.br fz then some r.1 else none
def Znr(ks:List Nat)(av:AVs)(H0:AH)(s:AS):List (Nat×Nat×Nat)->Bool
 | []=>true
 |k::l=>(match av.nth k.1,s.F k.1 with
  |some (.ptr id []), .ptr id' []=>(match H0 id,s.H id' with
   |some (.var T (.agg c)),some (.var T' (.agg c'))=>(match c.nth k.2.1,c'.nth k.2.1 with
    |some (.vw a),some (.vw b)=>Va a b&&T' ==T&&Va (ZoZ T k.2.1) k.2.2&&Zdb k.1 ks
    |_,_=>false)
   |_,_=>false)
  |_,_=>false) &&Znr ks av H0 s l
noncomputable def Zh5(E:Env)(body:Code)(results:Array ResultVar)(h:ZfT)(args res:Za5){α:Type}(pack:ZbQ args×ZcJ res->α)(x:ZcJ args)(kp:List (Nat×Nat×Nat):=[]):Option α:=
 let r:=Zcz args x 0
 Zbd body h {E with ks:=ZbB args 0} α ⟨r.1.toF,Zdl r.2.1,r.2.2,[]⟩ fun e s=>
  (ZlX E results args res [] e s).bind fun y=>bif Znr (ZbB args 0) r.1 (Zdl r.2.1) s kp then some (pack y) else none
def mkE(tys:List (Nat×Ty))(ms:List (Nat×Ty×Ty))(pks:List (Nat×Nat))(rws zxs:List Nat)(m:List (Nat×List Spec))(nt:Nat)(bds:List (Nat×Nat):=[]):Env:=
 {ty:=fun n=>tys.lookup n,mty:=fun n=>ms.lookup n,pk:=fun n=>(pks.lookup n).getD 0,rw:=fun n=>rws.contains n,zx:=fun n=>zxs.contains n,bd:=fun n=>bds.lookup n,specs:=fun n=>(m.lookup n).getD [],nt:=nt,ks:=[] }
def Zcp(f:Func):Code:=match f.body with
 |some b=>b
 |none=> .skip
end Tr
