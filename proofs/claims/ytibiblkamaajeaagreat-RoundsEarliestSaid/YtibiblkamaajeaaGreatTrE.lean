/- The definitions of the abstract machine, the last part: states, regions, code, loops, functions. Conditions: none. -/
import Derived.Test.YtibiblkamaajeaaGreatTrD
open Nat renaming beq ->Va
open Prod renaming fst ->Vb
namespace Tr
open Go
structure AS where
 F:Nat->AV
 H:AH
 nx:Nat
 fz:List Nat
def ZlW(F:Nat->AV)(n:Nat)(v:AV):Nat->AV:=fun k=>bif Va k n then v else F k
def ZhE(F:Nat->AV)(d:Option Nat)(v:AV):Nat->AV:=match d with
 |some n=>ZlW F n v
 |none=>F
def Zh1:AV:= .tup .nil
def Zag(H:AH):Zbv->AH
 | []=>H
 |p::l=>Zag (Zb8 H p.1 p.2) l
inductive Ex where
 |normal
 |exit (id:Nat)
 |ret
def Ex.beq:Ex->Ex->Bool
 | .normal, .normal=>true
 | .exit a, .exit b=>Va a b
 | .ret, .ret=>true
 |_,_=>false
def Zj0{σ τ:Type}(step:σ->Option (σ ⊕ τ)):Nat->σ->Option τ
 |0,_=>none
 |n+1,s=>match step s with
  |some (.inl s')=>Zj0 step n s'
  |some (.inr r)=>some r
  |none=>none
open Classical in
noncomputable def run{σ τ:Type}(step:σ->Option (σ ⊕ τ))(s:σ):Option τ:=
 match Zj0 step 100000 s with
 |some r=>some r
 |none=>if h: ∃r n,Zj0 step n s=some r then some h.choose else none
def Zp0{σ τ ρ:Type}(cnt:σ->Nat)(step:σ->Nat->Option (σ ⊕ τ))(k:τ->Option ρ)(z:ρ):Nat->σ->Prop
 |0,_=>False
 |n+1,s=> ∀i,i<cnt s->(∃s',step s i=some (.inl s')/\Zp0 cnt step k z n s')\/ ∃t,step s i=some (.inr t)/\k t=some z
def Zw2{σ τ ρ:Type}(cnt:σ->Nat)(step:σ->Nat->Option (σ ⊕ τ))(k:τ->Option ρ):Nat->σ->Option ρ
 |0,_=>none
 |n+1,s=>bif Nat.ble (cnt s) 1 then(match step s 0 with
  |some (.inl s')=>Zw2 cnt step k n s'
  |some (.inr t)=>k t
  |none=>none) else none
open Classical in
noncomputable def drun{σ τ ρ:Type}(cnt:σ->Nat)(step:σ->Nat->Option (σ ⊕ τ))(k:τ->Option ρ)(s:σ):Option ρ:=
 match Zw2 cnt step k 1000 s with
 |some r=>some r
 |none=>if h: ∃z n,Zp0 cnt step k z n s then some h.choose else none
structure Trc where
 i:Nat
 rd:List Nat
 wr:List Nat
def ZgF(E:Env):Option Nat->Bool
 |some d=>Nat.blt d E.nt&& !ZeN d E.ks
 |none=>true
def Zgm(E:Env)(ops:Array Oper)(base:Nat)(fz:List Nat)(ρ:Type):List (Oper×Nat)->(Nat->AV)->AH->List Trc->((Nat->AV)->AH->List Trc->Option ρ)->Option ρ
 | [],F,H,tr,k=>k F H tr
 | (o,i)::rest,F,H,tr,k=>
  let go:=fun(F:Nat->AV)=>bif ZgF E o.dst then
   (aop E (base+i*ZaJ) o.op o.type (aev F)).runK H [] fun r rd=>
    bif ZeG (r.2.map Vb) fz then
     Zgm E ops base fz ρ rest (ZhE F o.dst r.1) (Zag H r.2) (⟨i,rd,r.2.map Vb⟩::tr) k else none else none
  let skip:=fun(F:Nat->AV)=>bif ZgF E o.dst then Zgm E ops base fz ρ rest (ZhE F o.dst Zh1) H tr k else none
  match o.guard with
  |none=>go F
  |some (j,want)=>match (ops[j]?).bind (·.dst) with
   |none=>none
   |some g=>match F g with
    | .d .bool b=>bif b then(bif want then go (ZlW F g (.d .bool true)) else skip (ZlW F g (.d .bool true)))
      else(bif want then skip (ZlW F g (.d .bool false)) else go (ZlW F g (.d .bool false)))
    | .tup .nil=>skip F
    |_=>none
def ZiK:List Operand->List Nat
 | []=>[]
 | .tmp t::l=>t::ZiK l
 |_::l=>ZiK l
def Zfy(ops:Array Oper)(o:Oper):List Nat:=
 (match o.guard with
  |some (j,_)=>((ops[j]?).bind (·.dst)).toList
  |none=>[])++ZiK o.op.operands.toList
def ZfP(ops:Array Oper)(a b:Oper):Bool:=
 (match a.dst with
  |some d=> !ZeN d (Zfy ops b) && (match b.dst with|some e=> !Va d e|none=>true)
  |none=>true) &&
 (match b.dst with
  |some d=> !ZeN d (Zfy ops a)
  |none=>true)
def Zfr(i:Nat):List Trc->Option Trc
 | []=>none
 |t::l=>bif Va t.i i then some t else Zfr i l
def ZpN(tr:List Trc)(i j:Nat):Bool:=
 match Zfr i tr,Zfr j tr with
 |some a,some b=>ZeG a.wr b.rd&&ZeG a.wr b.wr&&ZeG b.wr a.rd
 |_,_=>true
def Zt7(ops:Array Oper):List (Nat×Nat):=
 let b:=Region.before ops
 (List.range ops.size).flatMap fun j=>(List.range j).filterMap fun i=>if (b.getD j 0).testBit i then none else some (i,j)
def ZvT(ops:Array Oper):Bool:=(Zt7 ops).all fun p=>match ops[p.1]?,ops[p.2]? with
 |some a,some b=>ZfP ops a b
 |_,_=>true
def Zod(ops:Array Oper):Bool:=ops.toList.zipIdx.all fun p=>p.1.after.all fun e=> !Region.binds .any e||Nat.blt e.on p.2
def Zkt(ops:Array Oper)(tr:List Trc):Bool:=
 Zod ops&&ZvT ops&& (tr.all (fun t=>t.wr.isEmpty) || (Zt7 ops).all fun p=>ZpN tr p.1 p.2)
@[reducible] def ElT:List (Nat×Ty)->Type
 | []=>Unit
 | [(_,t)]=>El t
 | (_,t)::p::l=>El t×ElT (p::l)
def ZwL(F:Nat->AV): (l:List (Nat×Ty))->Option (ElT l)
 | []=>some ()
 | [(n,t)]=>(match F n with
  | .d t' x=>ZaV t' t x
  |_=>none)
 | (n,t)::p::l=>(match F n with
  | .d t' x=>(ZaV t' t x).bind fun y=>(ZwL F (p::l)).bind fun z=>some (y,z)
  |_=>none)
def inT(F:Nat->AV): (l:List (Nat×Ty))->ElT l->Nat->AV
 | [],_=>F
 | [(n,t)],x=>ZlW F n (.d t x)
 | (n,t)::p::l,x=>inT (ZlW F n (.d t x.1)) (p::l) x.2
def Zwd(l:List Nat)(F:Nat->AV):Nat->AV:=fun k=>bif ZeN k l then .junk else F k
def Zpr(ops:List Oper):List Nat:=ops.filterMap (·.dst)
def ZnQ(E:Env)(ops:Array Oper)(draw:Bool)(outs:Option (List (Nat×Ty)))(ρ:Type)(s:AS)(k:AS->Option ρ):Option ρ:=
 let nx:=s.nx+ops.size*ZaJ
 match outs with
 |none=>Zgm E ops s.nx s.fz ρ ops.toList.zipIdx s.F s.H [] fun F H tr=>bif !draw||Zkt ops tr then k ⟨F,H,nx,s.fz⟩ else none
 |some l=>(Zgm E ops s.nx s.fz (ElT l) ops.toList.zipIdx s.F s.H [] fun F _ tr=>bif (!draw||Zkt ops tr) &&tr.all (fun t=>t.wr.isEmpty) then ZwL F l else none).bind
   fun x=>k ⟨inT (Zwd (Zpr ops.toList) s.F) l x,s.H,nx,s.fz⟩
structure Ziu where
 roots:List (Nat×Pat)
 fns:List (Nat×FuncId×List Nat):=[]
 kept:List Nat:=[]
 als:List (Nat×Nat):=[]
 kf:List (Nat×Nat×Nat):=[]
 kv:List Nat:=[]
@[reducible] def ElR:List (Nat×Pat)->Type
 | []=>Unit
 | [(_,p)]=>ElP p
 | (_,p)::q::l=>ElP p×ElR (q::l)
def ZvW(F:Nat->AV): (l:List (Nat×Pat))->Acc (ElR l×Ids)
 | []=> .ret ((),Ids.none)
 | [(n,p)]=>ext p (F n)
 | (n,p)::q::l=>(ext p (F n)).bind fun x=>(ZvW F (q::l)).bind fun y=> .ret ((x.1,y.1),x.2.app y.2)
def Zgu: (l:List (Nat×Pat))->ElR l->Nat->List (Nat×AV) ×List (Nat×ZeO) ×Nat
 | [],_,n=>([],[],n)
 | [(m,p)],x,n=>let r:=inj p x n;([(m,r.1)],r.2.1,r.2.2)
 | (m,p)::q::l,x,n=>let r:=inj p x.1 n;let s:=Zgu (q::l) x.2 r.2.2;((m,r.1)::s.1,r.2.1++s.2.1,s.2.2)
def ZmI:List (Nat×AV)->Nat->AV
 | [],_=> .junk
 |p::l,k=>bif Va k p.1 then p.2 else ZmI l k
def ZeM:List (Nat×ZeO)->AH
 | [],_=>none
 |p::l,k=>bif Va k p.1 then some p.2 else ZeM l k
def AV.box? :AV->Option Nat
 | .ptr id []=>some id
 |_=>none
def Zfb(F:Nat->AV):AVs->List Nat->Bool
 | .nil,[]=>true
 | .cons v l,n::m=>(match v.box?,(F n).box? with
  |some a,some b=>Va a b
  |_,_=>false) &&Zfb F l m
 |_,_=>false
def Zr6(F:Nat->AV):List (Nat×FuncId×List Nat)->Bool
 | []=>true
 | (n,f,l)::m=>(match F n with
  | .fn f' caps=>Va f' f&&Zfb F caps l
  |_=>false) &&Zr6 F m
def Zpu(F:Nat->AV):List (Nat×FuncId×List Nat)->Nat->AV
 | []=>F
 | (n,f,l)::m=>ZlW (Zpu F m) n (.fn f (AVs.ofList (l.map F)))
def Ztw(x y:AV):Bool:=match x,y with
 | .vw a, .vw b=>Va a b
 | .mp a, .mp b=>Va a b
 | .ptr a [], .ptr b []=>Va a b
 | .nils, .nils=>true
 |_,_=>false
def Zrw(F:Nat->AV):List (Nat×Nat)->Bool
 | []=>true
 |p::l=>Ztw (F p.1) (F p.2) &&Zrw F l
def ZpK(F:Nat->AV):List (Nat×Nat)->Nat->AV
 | []=>F
 |p::l=>ZlW (ZpK F l) p.1 (F p.2)
def AV.boxes:AVs->List Nat
 | .nil=>[]
 | .cons v l=>v.box?.toList++AV.boxes l
def ZdG(s:AS):List Nat->List Nat
 | []=>[]
 |n::l=>(match s.F n with
  | .ptr id []=>[id]
  | .vw id=>[id]
  | .nw id _ _ _=>[id]
  | .mp id=>[id]
  | .fn _ caps=>AV.boxes caps
  |_=>[])++ZdG s l
def ZlZ(H:AH)(id:Nat):Bool:=match H id with
 |some (.var _ (.d _ _))=>true
 |some (.vec _ _)=>true
 |some (.map _ _ _)=>true
 |some (.rows _ _ _ none)=>true
 |some (.mrows _ _ _ _ none)=>true
 |some (.rng _ _ _ _)=>true
 |some (.dat _ _)=>true
 |some (.bld _ _ _)=>true
 |_=>false
def ZpU(H:AH):AVs->Bool
 | .nil=>true
 | .cons v l=>(match v with
  | .ptr id []=>ZlZ H id
  | .dp _ _=>true
  | .d _ _=>true
  |_=>false) &&ZpU H l
def Zfg(s:AS):List Nat->Bool
 | []=>true
 |n::l=>(match s.F n with
  | .d _ _=>true
  | .dp _ _=>true
  | .nilr=>true
  | .nils=>true
  | .ptr id []=>ZlZ s.H id
  | .vw id=>ZlZ s.H id
  | .nw id _ _ _=>ZlZ s.H id
  | .mp id=>ZlZ s.H id
  | .fn _ caps=>ZpU s.H caps
  |_=>false) &&Zfg s l
def ZaD(b:AS)(e:Ziu):List Nat:=ZdG b e.kept++b.fz
def ZbS(E:Env)(e:Ziu):Env:= {E with ks:=e.kept++(e.kv++E.ks) }
def ZrX(fz:List Nat)(e:Ziu)(s:AS):Option (ElR e.roots):=
 (ZvW s.F e.roots).runK s.H [] fun r _=>bif r.2.ok fz&&ZeG r.2.br fz&&Zr6 s.F e.fns&&Zrw s.F e.als then some r.1 else none
def Zqp(b:AS)(fz:List Nat)(e:Ziu)(x:ElR e.roots):AS:=
 let r:=Zgu e.roots x b.nx
 ⟨ZpK (Zpu (fun k=>bif ZeN k e.kept then b.F k else ZmI r.1 k) e.fns) e.als,fun id=>bif ZeN id (ZaD b e) then b.H id else ZeM r.2.1 id,r.2.2,fz⟩
def ZqA(s:AS)(k:Nat×Nat×Nat):Option Nat:=match s.F k.1 with
 | .ptr id []=>(match s.H id with
  |some (.var T (.agg c))=>(match c.nth k.2.1 with
   |some (.vw a)=>bif Va (Zvo T k.2.1) k.2.2 then some a else none
   |_=>none)
  |_=>none)
 |_=>none
def ZwT(b s:AS):List (Nat×Nat×Nat)->Bool
 | []=>true
 |k::l=>(match ZqA b k,ZqA s k with
  |some x,some y=>Va x y
  |_,_=>false) &&ZwT b s l
def Zt6(b:AS)(fz:List Nat)(k:Nat×Nat×Nat)(s:AS):AS:=match ZqA b k,ZqA s k,s.F k.1 with
 |some a,some a2, .ptr id []=>(match s.H id,s.H a2,b.H a with
  |some (.var T (.agg c)),some (.vec t xs),some (.vec t0 _)=>bif t0==t&& !Va a2 id&& !Va a id&& !ZeN a fz&& !ZeN a2 fz&& !ZeN id fz then
    {s with H:=Zb8 (Zb8 (Zb8 (Zb8 s.H a2 none) id none) a (some (.vec t xs))) id (some (.var T (.agg (c.putNth k.2.1 (.vw a))))) } else s
  |_,_,_=>s)
 |_,_,_=>s
def Zvc(b:AS)(fz:List Nat):List (Nat×Nat×Nat)->AS->AS
 | [],s=>s
 |k::l,s=>Zvc b fz l (Zt6 b fz k s)
def ZwF(b:AS):List Nat->(Nat->AV)->Nat->AV
 | [],F=>F
 |n::l,F=>ZwF b l (ZlW F n (b.F n))
def Zio(b:AS)(fz:List Nat)(e:Ziu)(s:AS):Option (ElR e.roots):=bif ZwT b s e.kf then ZrX fz e s else none
def Zny(b:AS)(fz:List Nat)(e:Ziu)(x:ElR e.roots):AS:=
 let s:=Zvc b (ZaD b e) e.kf (Zqp b fz e x)
 ⟨ZwF b e.kv s.F,s.H,s.nx,fz⟩
abbrev Zil:=List (Ex×Ziu)
@[reducible] def Zgl:Zil->Type
 | []=>Empty
 | [e]=>ElR e.2.roots
 |e::f::l=>ElR e.2.roots ⊕ Zgl (f::l)
def Zgg(b:AS)(fz:List Nat): (J:Zil)->Ex->AS->Option (Zgl J)
 | [],_,_=>none
 | [e],x,s=>bif x.beq e.1 then Zio b fz e.2 s else none
 |e::f::l,x,s=>bif x.beq e.1 then(Zio b fz e.2 s).bind fun y=>some (.inl y) else(Zgg b fz (f::l) x s).bind fun y=>some (.inr y)
def Zgy{ρ:Type}(b:AS): (J:Zil)->Zgl J->(Ex->AS->Option ρ)->Option ρ
 | [],_,_=>none
 | [e],y,k=>k e.1 (Zny b b.fz e.2 y)
 |e::f::l,y,k=>match y with
  | .inl y=>k e.1 (Zny b b.fz e.2 y)
  | .inr y=>Zgy b (f::l) y k
def Ziu.slots(e:Ziu):List Nat:=e.roots.map Vb++e.fns.map Vb++e.kept
def Zc4(e:Ziu):Zil->Bool
 | []=>true
 |f::l=>f.2.kept.all (fun n=>ZeN n e.kept) &&f.2.kv.all (fun n=>ZeN n e.kv) &&Zfc f.2.slots&&Zc4 e l
inductive Zik where
 |leaf
 |seq (a b:Zik)
 |cnd (J:Option (Ziu×Zil)) (a b:Zik)
 |lp (e:Ziu) (J:Zil) (h:Zik)
 |lpd (it:Nat) (e:Ziu) (J:Zil) (h:Zik)
 |reg (outs:List (Nat×Ty))
def Zik.l:Zik->Zik
 | .seq a _=>a
 | .cnd _ a _=>a
 |_=> .leaf
def Zik.r:Zik->Zik
 | .seq _ b=>b
 | .cnd _ _ b=>b
 |_=> .leaf
def Zik.join:Zik->Option (Ziu×Zil)
 | .cnd J _ _=>J
 |_=>none
def Zik.outs:Zik->Option (List (Nat×Ty))
 | .reg l=>some l
 |_=>none
def Zg5(it:Nat)(s:AS):Nat:=match s.F it with
 | .ptr id []=>(match s.H id with
  |some (.rng _ _ rest _)=>bif rest.isEmpty then 1 else rest.length
  |_=>1)
 |_=>1
def Zoo(E:Env)(ops:Array Oper)(it i:Nat)(ρ:Type)(s:AS)(k:AS->Option ρ):Option ρ:=
 match ops.toList.zipIdx with
 | []=>none
 | (o,_)::l=>(match o.op,o.guard,o.dst with
  | .next (.tmp it') false,none,some d=>bif Va it' it&&ZgF E (some d) then(match s.F it with
   | .ptr id []=>(match s.H id with
    |some (.rng kt vt rest _)=>bif ZeN id s.fz then none else
      bif rest.isEmpty then Zgm E ops s.nx s.fz ρ l (ZhE s.F (some d) (.tup (.cons (.d .bool false) .nil))) s.H [] fun F H _=>k ⟨F,H,s.nx+ops.size*ZaJ,s.fz⟩
      else(rest[i]?).bind fun e=>Zgm E ops s.nx s.fz ρ l (ZhE s.F (some d) (.tup (.cons (.d .bool true) (.cons (.d kt e.1) (.cons (.d vt e.2) .nil)))))
       (Zb8 s.H id (some (.rng kt vt (rest.eraseIdx i) (some e)))) [] fun F H _=>k ⟨F,H,s.nx+ops.size*ZaJ,s.fz⟩
    |_=>none)
   |_=>none) else none
  |_,_,_=>none)
noncomputable def Zb7:Code->Zik->Env->(ρ:Type)->AS->(Ex->AS->Option ρ)->Option ρ
 | .skip,_,_,_,s,k=>k .normal s
 | .label _,_,_,_,s,k=>k .normal s
 | .scope c,h,E,ρ,s,k=>Zb7 c h E ρ s k
 | .region _ ops draw,h,E,ρ,s,k=>ZnQ E ops draw h.outs ρ s (k .normal)
 | .seq a b,h,E,ρ,s,k=>Zb7 a h.l E ρ s fun e s' =>match e with
  | .normal=>Zb7 b h.r E ρ s' k
  |e=>k e s'
 | .cond c a b,h,E,ρ,s,k=>match aev s.F c with
  | .d .bool t=>(match h.join with
   |none=>bif t then Zb7 a h.l E ρ s k else Zb7 b h.r E ρ s k
   |some (e,J)=>bif Zfg s e.kept&&Zc4 e J then
     (let s1:AS:= {s with fz:=ZaD s e}
      bif t then Zb7 a h.l (ZbS E e) (Zgl J) s1 (Zgg s (ZaD s e) J) else Zb7 b h.r (ZbS E e) (Zgl J) s1 (Zgg s (ZaD s e) J)).bind fun o=>Zgy s J o k
    else none)
  |_=>none
 | .block id c,h,E,ρ,s,k=>Zb7 c h E ρ s fun e s' =>match e with
  | .exit i=>bif Va i id then k .normal s' else k (.exit i) s'
  |e=>k e s'
 | .loop c,h,E,_,s,k=>match h with
  | .lp en J hb=>bif Zfg s en.kept&&Zc4 en J&&Zfc en.slots then
    (Zio s (ZaD s en) en s).bind fun x=>(run (fun y=>Zb7 c hb (ZbS E en) (ElR en.roots ⊕ Zgl J) (Zny s (ZaD s en) en y) fun e s' =>match e with
     | .normal=>(Zio s (ZaD s en) en s').bind fun z=>some (.inl z)
     |e=>(Zgg s (ZaD s en) J e s').bind fun z=>some (.inr z)) x).bind fun o=>Zgy s J o k
   else none
  | .lpd it en J hb=>(match c with
   | .seq (.region _ ops false) c2=>bif Zfg s en.kept&&Zc4 en J&&Zfc en.slots then
     (Zio s (ZaD s en) en s).bind fun x=>drun (fun y=>Zg5 it (Zny s (ZaD s en) en y)) (fun y i=>Zoo (ZbS E en) ops it i (ElR en.roots ⊕ Zgl J) (Zny s (ZaD s en) en y) fun s1=>Zb7 c2 hb (ZbS E en) (ElR en.roots ⊕ Zgl J) s1 fun e s' =>match e with
      | .normal=>(Zio s (ZaD s en) en s').bind fun z=>some (.inl z)
      |e=>(Zgg s (ZaD s en) J e s').bind fun z=>some (.inr z)) (fun o=>Zgy s J o k) x
    else none
   |_=>none)
  |_=>none
 | .exit id,_,_,_,s,k=>k (.exit id) s
 | .ret,_,_,_,s,k=>k .ret s
 |_,_,_,_,_,_=>none
def AVs.toF:AVs->Nat->AV
 | .nil,_=>Zh1
 | .cons v _,0=>v
 | .cons _ l,n+1=>l.toF n
mutual
def Pat.back:Pat->Bool
 | .own _ k=>k
 | .var _ _=>true
 | .map _ _=>true
 | .rows _ k=>k
 | .mrows _ _=>true
 | .bld _ _ k=>k
 | .agg l=>l.back
 | .fn _ l=>l.back
 |_=>false
def Zbo.back:Zbo->Bool
 | .nil=>false
 | .cons p l=>p.back||l.back
end
mutual
def Zv4: (p:Pat)->ElP p
 | .pd t=>ZbE t
 | .own _ _=>[]
 | .var _ p=>Zv4 p
 | .ro t=>ZbE t
 | .map _ _=>[]
 | .rows _ _=>[]
 | .mrows _ _=>[]
 | .it _ _=>[]
 | .bld _ _ _=>[]
 | .agg l=>Ztn l
 | .fn _ l=>Ztn l
 | .nilr=>()
 | .nils=>()
 | .any=>()
def Ztn: (l:Zbo)->Zer l
 | .nil=>()
 | .cons p l=>(Zv4 p,Ztn l)
end
mutual
def Zvu: (p:Pat)->Zrd p
 | .own _ true=>[]
 | .own _ false=>()
 | .var _ p=>Zv4 p
 | .map _ _=>[]
 | .rows _ true=>[]
 | .rows _ false=>()
 | .mrows _ _=>[]
 | .it _ _=>()
 | .bld _ _ true=>[]
 | .bld _ _ false=>()
 | .agg l=>Zn7 l
 | .fn _ l=>Zn7 l
 | .pd _=>()
 | .ro _=>()
 | .nilr=>()
 | .nils=>()
 | .any=>()
def Zn7: (l:Zbo)->ZcM l
 | .nil=>()
 | .cons p l=>(Zvu p,Zn7 l)
end
def Ztx:Pat->AV->Bool
 | .pd t,v=>v.fits t
 | .own t _,v=>v.fits (.sl t)
 | .rows t _,v=>v.fits (.sl (.sl t))
 | .agg _,_=>true
 | .fn _ _,_=>true
 | .any,_=>false
 | .nils,v=>v.fits (.sl .unit)
 |_,v=>v.fits .ref
mutual
def ZdP: (p:Pat)->AV->Acc (Zrd p×Ids)
 | .own t true, .vw id=> .getH id fun
  |some (.vec t' xs)=> .opt (ZaV (.sl t') (.sl t) xs) fun y=> .ret (y,⟨[id],[]⟩)
  |_=> .fail
 | .own _ false,_=> .ret ((),Ids.none)
 | .var t p, .ptr id []=> .getH id fun
  |some (.var t' c)=>bif t' ==t&&p.fits t then(ext p c).bind fun r=> .ret (r.1,⟨id::r.2.tk,r.2.br⟩) else .fail
  |_=> .fail
 | .map kt vt, .mp id=> .getH id fun
  |some (.map k e m)=> .opt (ZaV (.sl (.prod k e)) (.sl (.prod kt vt)) m) fun y=> .ret (y,⟨[id],[]⟩)
  |_=> .fail
 | .rows t true, .vw id=> .getH id fun
  |some (.rows t' xs _ none)=> .opt (ZaV (.sl (.sl t')) (.sl (.sl t)) xs) fun y=> .ret (y,⟨[id],[]⟩)
  |_=> .fail
 | .rows _ false,_=> .ret ((),Ids.none)
 | .mrows kt t, .mp id=> .getH id fun
  |some (.mrows k t' m _ none)=> .opt (ZaV (.sl (.prod k (.sl t'))) (.sl (.prod kt (.sl t))) m) fun y=> .ret (y,⟨[id],[]⟩)
  |_=> .fail
 | .it _ _,_=> .ret ((),Ids.none)
 | .bld T e true, .ptr id []=> .getH id fun
  |some (.bld T' e' bs)=>bif Va T' T&&Va e' e then .ret (bs,⟨[id],[]⟩) else .fail
  |_=> .fail
 | .bld _ _ false,_=> .ret ((),Ids.none)
 | .agg l, .agg vs=>ZiM l vs
 | .fn f l, .fn f' vs=>bif Va f' f then ZiM l vs else .fail
 | .pd _,_=> .ret ((),Ids.none)
 | .ro _,_=> .ret ((),Ids.none)
 | .nilr,_=> .ret ((),Ids.none)
 | .nils,_=> .ret ((),Ids.none)
 | .any,_=> .ret ((),Ids.none)
 |_,_=> .fail
def ZiM: (l:Zbo)->AVs->Acc (ZcM l×Ids)
 | .nil, .nil=> .ret ((),Ids.none)
 | .cons p l, .cons v vs=>bif Ztx p v then(ZdP p v).bind fun x=>(ZiM l vs).bind fun y=> .ret ((x.1,y.1),x.2.app y.2) else .fail
 |_,_=> .fail
end
def ZkB: (l:Zbo)->AVs->Acc (ZcM l×Ids)
 | .nil,_=> .ret ((),Ids.none)
 | .cons p l, .cons v vs=>bif p.back then(ZdP p v).bind fun x=>(ZkB l vs).bind fun y=> .ret ((x.1,y.1),x.2.app y.2)
   else(ZkB l vs).bind fun y=> .ret ((Zvu p,y.1),y.2)
 |_,_=> .fail
def Zoe(E:Env)(s:AS):List ResultVar->Acc AVs
 | []=> .ret .nil
 | .tmp t::l=>(Zoe E s l).bind fun vs=> .ret (.cons (s.F t) vs)
 | .cell a T::l=> .opt (E.ty T) fun t=>(match s.F a with
  | .ptr id p=> .getH id fun
   |some (.var _ c)=>(ZiG c p).bind fun v=>bif v.fits t&&v.solid then(Zoe E s l).bind fun vs=> .ret (.cons v vs) else .fail
   |_=> .fail
  |_=> .fail)
def ZbG:Zbo->Nat->List Nat
 | .nil,_=>[]
 | .cons p l,n=>(bif p.back then [n] else [])++ZbG l (n+1)
def Zbo.len:Zbo->Nat
 | .nil=>0
 | .cons _ l=>l.len+1
def Zjs(F:Nat->AV):Zbo->Nat->AVs
 | .nil,_=> .nil
 | .cons _ l,n=> .cons (F n) (Zjs F l (n+1))
def Zsi(E:Env)(results:Array ResultVar)(args res:Zbo)(fz:List Nat)(e:Ex)(s:AS):Option (ZcM args×Zer res):=
 match e with
 | .exit _=>none
 |_=>((Zoe E s results.toList).bind fun vs=>(Zgk res vs).bind fun r=>(ZkB args (Zjs s.F args 0)).bind fun o=> .ret ((o.1,r.1),o.2.app r.2)).runK s.H [] fun r _=>
   bif r.2.ok fz&&ZeG r.2.br fz then some r.1 else none
def ZrT(ks:List Nat)(av:AVs)(H0:AH)(s:AS):List (Nat×Nat×Nat)->Bool
 | []=>true
 |k::l=>(match av.nth k.1,s.F k.1 with
  |some (.ptr id []), .ptr id' []=>(match H0 id,s.H id' with
   |some (.var T (.agg c)),some (.var T' (.agg c'))=>(match c.nth k.2.1,c'.nth k.2.1 with
    |some (.vw a),some (.vw b)=>Va a b&&T' ==T&&Va (Zvo T k.2.1) k.2.2&&ZeN k.1 ks
    |_,_=>false)
   |_,_=>false)
  |_,_=>false) &&ZrT ks av H0 s l
noncomputable def Zp8(E:Env)(body:Code)(results:Array ResultVar)(h:Zik)(args res:Zbo){α:Type}(pack:ZcM args×Zer res->α)(x:Zer args)(kp:List (Nat×Nat×Nat):=[]):Option α:=
 let r:=ZdN args x 0
 Zb7 body h {E with ks:=ZbG args 0} α ⟨r.1.toF,ZeM r.2.1,r.2.2,[]⟩ fun e s=>
  (Zsi E results args res [] e s).bind fun y=>bif ZrT (ZbG args 0) r.1 (ZeM r.2.1) s kp then some (pack y) else none
def mkE(tys:List (Nat×Ty))(ms:List (Nat×Ty×Ty))(pks:List (Nat×Nat))(rws zxs:List Nat)(m:List (Nat×List Spec))(nt:Nat)(bds:List (Nat×Nat):=[]):Env:=
 {ty:=fun n=>tys.lookup n,mty:=fun n=>ms.lookup n,pk:=fun n=>(pks.lookup n).getD 0,rw:=fun n=>rws.contains n,zx:=fun n=>zxs.contains n,bd:=fun n=>bds.lookup n,specs:=fun n=>(m.lookup n).getD [],nt:=nt,ks:=[] }
def ZpW(f:Func):Code:=match f.body with
 |some b=>b
 |none=> .skip
end Tr
