/- The definitions of the abstract machine, the last part: states, regions, code, loops, functions. Conditions: none. -/
import Derived.Test.YtckebckjnfcniaaGreatTrD
namespace Tr
open Go
structure AS where
 F:Nat→AV
 H:AH
 nx:Nat
 fz:List Nat
def Zi9 (F:Nat→AV) (n:Nat) (v:AV):Nat→AV:=fun k=>bif Nat.beq k n then v else F k
def ZfK (F:Nat→AV) (d:Option Nat) (v:AV):Nat→AV:=match d with
 |some n=>Zi9 F n v
 |none=>F
def Zf3:AV:= .tup .nil
def Zad (H:AH):Zbe→AH
 | []=>H
 |p::l=>Zad (ZbJ H p.1 p.2) l
inductive Ex where
 |normal
 |exit (id:Nat)
 |ret
def Ex.beq:Ex→Ex→Bool
 | .normal, .normal=>true
 | .exit a, .exit b=>Nat.beq a b
 | .ret, .ret=>true
 |_,_=>false
def Zhx {σ τ:Type} (step:σ→Option (σ ⊕ τ)):Nat→σ→Option τ
 |0,_=>none
 |n+1,s=>match step s with
  |some (.inl s')=>Zhx step n s'
  |some (.inr r)=>some r
  |none=>none
open Classical in
noncomputable def run {σ τ:Type} (step:σ→Option (σ ⊕ τ)) (s:σ):Option τ:=
 match Zhx step 100000 s with
 |some r=>some r
 |none=>if h: ∃r n,Zhx step n s=some r then some h.choose else none
def ZmD {σ τ ρ:Type} (cnt:σ→Nat) (step:σ→Nat→Option (σ ⊕ τ)) (k:τ→Option ρ) (z:ρ):Nat→σ→Prop
 |0,_=>False
 |n+1,s=> ∀i,i<cnt s→(∃s',step s i=some (.inl s')∧ZmD cnt step k z n s')∨ ∃t,step s i=some (.inr t)∧k t=some z
def ZsI {σ τ ρ:Type} (cnt:σ→Nat) (step:σ→Nat→Option (σ ⊕ τ)) (k:τ→Option ρ):Nat→σ→Option ρ
 |0,_=>none
 |n+1,s=>bif Nat.ble (cnt s) 1 then(match step s 0 with
  |some (.inl s')=>ZsI cnt step k n s'
  |some (.inr t)=>k t
  |none=>none) else none
open Classical in
noncomputable def drun {σ τ ρ:Type} (cnt:σ→Nat) (step:σ→Nat→Option (σ ⊕ τ)) (k:τ→Option ρ) (s:σ):Option ρ:=
 match ZsI cnt step k 1000 s with
 |some r=>some r
 |none=>if h: ∃z n,ZmD cnt step k z n s then some h.choose else none
structure Trc where
 i:Nat
 rd:List Nat
 wr:List Nat
def Ze0 (E:Env):Option Nat→Bool
 |some d=>Nat.blt d E.nt&& !Zdr d E.ks
 |none=>true
def ZeK (E:Env) (ops:Array Oper) (base:Nat) (fz:List Nat) (ρ:Type):List (Oper×Nat)→(Nat→AV)→AH→List Trc→((Nat→AV)→AH→List Trc→Option ρ)→Option ρ
 | [],F,H,tr,k=>k F H tr
 | (o,i)::rest,F,H,tr,k=>
  let go:=fun(F:Nat→AV)=>bif Ze0 E o.dst then
   (aop E (base+i*ZaB) o.op o.type (aev F)).runK H [] fun r rd=>
    bif ZdG (r.2.map Prod.fst) fz then
     ZeK E ops base fz ρ rest (ZfK F o.dst r.1) (Zad H r.2) (⟨i,rd,r.2.map Prod.fst⟩::tr) k else none else none
  let skip:=fun(F:Nat→AV)=>bif Ze0 E o.dst then ZeK E ops base fz ρ rest (ZfK F o.dst Zf3) H tr k else none
  match o.guard with
  |none=>go F
  |some (j,want)=>match (ops[j]?).bind (·.dst) with
   |none=>none
   |some g=>match F g with
    | .d .bool b=>bif b then(bif want then go (Zi9 F g (.d .bool true)) else skip (Zi9 F g (.d .bool true)))
      else(bif want then skip (Zi9 F g (.d .bool false)) else go (Zi9 F g (.d .bool false)))
    | .tup .nil=>skip F
    |_=>none
def ZgK:List Operand→List Nat
 | []=>[]
 | .tmp t::l=>t::ZgK l
 |_::l=>ZgK l
def Zek (ops:Array Oper) (o:Oper):List Nat:=
 (match o.guard with
  |some (j,_)=>((ops[j]?).bind (·.dst)).toList
  |none=>[])++ZgK o.op.operands.toList
def Zev (ops:Array Oper) (a b:Oper):Bool:=
 (match a.dst with
  |some d=> !Zdr d (Zek ops b) && (match b.dst with|some e=> !Nat.beq d e|none=>true)
  |none=>true) &&
 (match b.dst with
  |some d=> !Zdr d (Zek ops a)
  |none=>true)
def ZdV (i:Nat):List Trc→Option Trc
 | []=>none
 |t::l=>bif Nat.beq t.i i then some t else ZdV i l
def ZlY (tr:List Trc) (i j:Nat):Bool:=
 match ZdV i tr,ZdV j tr with
 |some a,some b=>ZdG a.wr b.rd&&ZdG a.wr b.wr&&ZdG b.wr a.rd
 |_,_=>true
def Zqj (ops:Array Oper):List (Nat×Nat):=
 let b:=Region.before ops
 (List.range ops.size).flatMap fun j=>(List.range j).filterMap fun i=>if (b.getD j 0).testBit i then none else some (i,j)
def Zrh (ops:Array Oper):Bool:=(Zqj ops).all fun p=>match ops[p.1]?,ops[p.2]? with
 |some a,some b=>Zev ops a b
 |_,_=>true
def ZkA (ops:Array Oper):Bool:=ops.toList.zipIdx.all fun p=>p.1.after.all fun e=> !Region.binds .any e||Nat.blt e.on p.2
def ZhM (ops:Array Oper) (tr:List Trc):Bool:=
 ZkA ops&&Zrh ops&& (tr.all (fun t=>t.wr.isEmpty) || (Zqj ops).all fun p=>ZlY tr p.1 p.2)
@[reducible] def ElT:List (Nat×Ty)→Type
 | []=>Unit
 | [(_,t)]=>El t
 | (_,t)::p::l=>El t×ElT (p::l)
def Zr7 (F:Nat→AV): (l:List (Nat×Ty))→Option (ElT l)
 | []=>some ()
 | [(n,t)]=>(match F n with
  | .d t' x=>ZaO t' t x
  |_=>none)
 | (n,t)::p::l=>(match F n with
  | .d t' x=>(ZaO t' t x).bind fun y=>(Zr7 F (p::l)).bind fun z=>some (y,z)
  |_=>none)
def inT (F:Nat→AV): (l:List (Nat×Ty))→ElT l→Nat→AV
 | [],_=>F
 | [(n,t)],x=>Zi9 F n (.d t x)
 | (n,t)::p::l,x=>inT (Zi9 F n (.d t x.1)) (p::l) x.2
def Zr6 (l:List Nat) (F:Nat→AV):Nat→AV:=fun k=>bif Zdr k l then .junk else F k
def Zmq (ops:List Oper):List Nat:=ops.filterMap (·.dst)
def ZkJ (E:Env) (ops:Array Oper) (draw:Bool) (outs:Option (List (Nat×Ty))) (ρ:Type) (s:AS) (k:AS→Option ρ):Option ρ:=
 let nx:=s.nx+ops.size*ZaB
 match outs with
 |none=>ZeK E ops s.nx s.fz ρ ops.toList.zipIdx s.F s.H [] fun F H tr=>bif !draw||ZhM ops tr then k ⟨F,H,nx,s.fz⟩ else none
 |some l=>(ZeK E ops s.nx s.fz (ElT l) ops.toList.zipIdx s.F s.H [] fun F _ tr=>bif (!draw||ZhM ops tr) &&tr.all (fun t=>t.wr.isEmpty) then Zr7 F l else none).bind
   fun x=>k ⟨inT (Zr6 (Zmq ops.toList) s.F) l x,s.H,nx,s.fz⟩
structure Zgu where
 roots:List (Nat×Pat)
 fns:List (Nat×FuncId×List Nat):=[]
 kept:List Nat:=[]
 als:List (Nat×Nat):=[]
 kf:List (Nat×Nat×Nat):=[]
 kv:List Nat:=[]
@[reducible] def ElR:List (Nat×Pat)→Type
 | []=>Unit
 | [(_,p)]=>ElP p
 | (_,p)::q::l=>ElP p×ElR (q::l)
def ZrK (F:Nat→AV): (l:List (Nat×Pat))→Acc (ElR l×Ids)
 | []=> .ret ((),Ids.none)
 | [(n,p)]=>ext p (F n)
 | (n,p)::q::l=>(ext p (F n)).bind fun x=>(ZrK F (q::l)).bind fun y=> .ret ((x.1,y.1),x.2.app y.2)
def Zei: (l:List (Nat×Pat))→ElR l→Nat→List (Nat×AV) ×List (Nat×ZdI) ×Nat
 | [],_,n=>([],[],n)
 | [(m,p)],x,n=>let r:=inj p x n;([(m,r.1)],r.2.1,r.2.2)
 | (m,p)::q::l,x,n=>let r:=inj p x.1 n;let s:=Zei (q::l) x.2 r.2.2;((m,r.1)::s.1,r.2.1++s.2.1,s.2.2)
def Zkb:List (Nat×AV)→Nat→AV
 | [],_=> .junk
 |p::l,k=>bif Nat.beq k p.1 then p.2 else Zkb l k
def Zdg:List (Nat×ZdI)→AH
 | [],_=>none
 |p::l,k=>bif Nat.beq k p.1 then some p.2 else Zdg l k
def AV.box? :AV→Option Nat
 | .ptr id []=>some id
 |_=>none
def ZdS (F:Nat→AV):AVs→List Nat→Bool
 | .nil,[]=>true
 | .cons v l,n::m=>(match v.box?,(F n).box? with
  |some a,some b=>Nat.beq a b
  |_,_=>false) &&ZdS F l m
 |_,_=>false
def ZnD (F:Nat→AV):List (Nat×FuncId×List Nat)→Bool
 | []=>true
 | (n,f,l)::m=>(match F n with
  | .fn f' caps=>Nat.beq f' f&&ZdS F caps l
  |_=>false) &&ZnD F m
def Zl0 (F:Nat→AV):List (Nat×FuncId×List Nat)→Nat→AV
 | []=>F
 | (n,f,l)::m=>Zi9 (Zl0 F m) n (.fn f (AVs.ofList (l.map F)))
def Zou (x y:AV):Bool:=match x,y with
 | .vw a, .vw b=>Nat.beq a b
 | .mp a, .mp b=>Nat.beq a b
 | .ptr a [], .ptr b []=>Nat.beq a b
 | .nils, .nils=>true
 |_,_=>false
def Zpu (F:Nat→AV):List (Nat×Nat)→Bool
 | []=>true
 |p::l=>Zou (F p.1) (F p.2) &&Zpu F l
def Zmi (F:Nat→AV):List (Nat×Nat)→Nat→AV
 | []=>F
 |p::l=>Zi9 (Zmi F l) p.1 (F p.2)
def AV.boxes:AVs→List Nat
 | .nil=>[]
 | .cons v l=>v.box?.toList++AV.boxes l
def ZcW (s:AS):List Nat→List Nat
 | []=>[]
 |n::l=>(match s.F n with
  | .ptr id []=>[id]
  | .vw id=>[id]
  | .nw id _ _ _=>[id]
  | .mp id=>[id]
  | .fn _ caps=>AV.boxes caps
  |_=>[])++ZcW s l
def Zi7 (H:AH) (id:Nat):Bool:=match H id with
 |some (.var _ (.d _ _))=>true
 |some (.vec _ _)=>true
 |some (.map _ _ _)=>true
 |some (.rows _ _ _ none)=>true
 |some (.mrows _ _ _ _ none)=>true
 |some (.rng _ _ _ _)=>true
 |some (.dat _ _)=>true
 |some (.bld _ _ _)=>true
 |_=>false
def Zl8 (H:AH):AVs→Bool
 | .nil=>true
 | .cons v l=>(match v with
  | .ptr id []=>Zi7 H id
  | .dp _ _=>true
  | .d _ _=>true
  |_=>false) &&Zl8 H l
def Zd0 (s:AS):List Nat→Bool
 | []=>true
 |n::l=>(match s.F n with
  | .d _ _=>true
  | .dp _ _=>true
  | .nilr=>true
  | .nils=>true
  | .ptr id []=>Zi7 s.H id
  | .vw id=>Zi7 s.H id
  | .nw id _ _ _=>Zi7 s.H id
  | .mp id=>Zi7 s.H id
  | .fn _ caps=>Zl8 s.H caps
  |_=>false) &&Zd0 s l
def Zau (b:AS) (e:Zgu):List Nat:=ZcW b e.kept++b.fz
def Zbu (E:Env) (e:Zgu):Env:= {E with ks:=e.kept++(e.kv++E.ks) }
def Zow (fz:List Nat) (e:Zgu) (s:AS):Option (ElR e.roots):=
 (ZrK s.F e.roots).runK s.H [] fun r _=>bif r.2.ok fz&&ZdG r.2.br fz&&ZnD s.F e.fns&&Zpu s.F e.als then some r.1 else none
def ZmQ (b:AS) (fz:List Nat) (e:Zgu) (x:ElR e.roots):AS:=
 let r:=Zei e.roots x b.nx
 ⟨Zmi (Zl0 (fun k=>bif Zdr k e.kept then b.F k else Zkb r.1 k) e.fns) e.als,fun id=>bif Zdr id (Zau b e) then b.H id else Zdg r.2.1 id,r.2.2,fz⟩
def ZmW (s:AS) (k:Nat×Nat×Nat):Option Nat:=match s.F k.1 with
 | .ptr id []=>(match s.H id with
  |some (.var T (.agg c))=>(match c.nth k.2.1 with
   |some (.vw a)=>bif Nat.beq (Zqx T k.2.1) k.2.2 then some a else none
   |_=>none)
  |_=>none)
 |_=>none
def Zse (b s:AS):List (Nat×Nat×Nat)→Bool
 | []=>true
 |k::l=>(match ZmW b k,ZmW s k with
  |some x,some y=>Nat.beq x y
  |_,_=>false) &&Zse b s l
def ZpD (b:AS) (fz:List Nat) (k:Nat×Nat×Nat) (s:AS):AS:=match ZmW b k,ZmW s k,s.F k.1 with
 |some a,some a2, .ptr id []=>(match s.H id,s.H a2,b.H a with
  |some (.var T (.agg c)),some (.vec t xs),some (.vec t0 _)=>bif t0==t&& !Nat.beq a2 id&& !Nat.beq a id&& !Zdr a fz&& !Zdr a2 fz&& !Zdr id fz then
    {s with H:=ZbJ (ZbJ (ZbJ (ZbJ s.H a2 none) id none) a (some (.vec t xs))) id (some (.var T (.agg (c.putNth k.2.1 (.vw a))))) } else s
  |_,_,_=>s)
 |_,_,_=>s
def Zq4 (b:AS) (fz:List Nat):List (Nat×Nat×Nat)→AS→AS
 | [],s=>s
 |k::l,s=>Zq4 b fz l (ZpD b fz k s)
def ZrN (b:AS):List Nat→(Nat→AV)→Nat→AV
 | [],F=>F
 |n::l,F=>ZrN b l (Zi9 F n (b.F n))
def Zgh (b:AS) (fz:List Nat) (e:Zgu) (s:AS):Option (ElR e.roots):=bif Zse b s e.kf then Zow fz e s else none
def Zkm (b:AS) (fz:List Nat) (e:Zgu) (x:ElR e.roots):AS:=
 let s:=Zq4 b (Zau b e) e.kf (ZmQ b fz e x)
 ⟨ZrN b e.kv s.F,s.H,s.nx,fz⟩
abbrev Zgn:=List (Ex×Zgu)
@[reducible] def ZeO:Zgn→Type
 | []=>Empty
 | [e]=>ElR e.2.roots
 |e::f::l=>ElR e.2.roots ⊕ ZeO (f::l)
def Zec (b:AS) (fz:List Nat): (J:Zgn)→Ex→AS→Option (ZeO J)
 | [],_,_=>none
 | [e],x,s=>bif x.beq e.1 then Zgh b fz e.2 s else none
 |e::f::l,x,s=>bif x.beq e.1 then(Zgh b fz e.2 s).bind fun y=>some (.inl y) else(Zec b fz (f::l) x s).bind fun y=>some (.inr y)
def ZeT {ρ:Type} (b:AS): (J:Zgn)→ZeO J→(Ex→AS→Option ρ)→Option ρ
 | [],_,_=>none
 | [e],y,k=>k e.1 (Zkm b b.fz e.2 y)
 |e::f::l,y,k=>match y with
  | .inl y=>k e.1 (Zkm b b.fz e.2 y)
  | .inr y=>ZeT b (f::l) y k
def Zgu.slots (e:Zgu):List Nat:=e.roots.map Prod.fst++e.fns.map Prod.fst++e.kept
def Zcw (e:Zgu):Zgn→Bool
 | []=>true
 |f::l=>f.2.kept.all (fun n=>Zdr n e.kept) &&f.2.kv.all (fun n=>Zdr n e.kv) &&Zd4 f.2.slots&&Zcw e l
inductive ZaU where
 |leaf
 |seq (a b:ZaU)
 |cnd (J:Option (Zgu×Zgn)) (a b:ZaU)
 |lp (e:Zgu) (J:Zgn) (h:ZaU)
 |lpd (it:Nat) (e:Zgu) (J:Zgn) (h:ZaU)
 |reg (outs:List (Nat×Ty))
def ZaU.l:ZaU→ZaU
 | .seq a _=>a
 | .cnd _ a _=>a
 |_=> .leaf
def ZaU.r:ZaU→ZaU
 | .seq _ b=>b
 | .cnd _ _ b=>b
 |_=> .leaf
def ZaU.join:ZaU→Option (Zgu×Zgn)
 | .cnd J _ _=>J
 |_=>none
def ZaU.outs:ZaU→Option (List (Nat×Ty))
 | .reg l=>some l
 |_=>none
def Zfe (it:Nat) (s:AS):Nat:=match s.F it with
 | .ptr id []=>(match s.H id with
  |some (.rng _ _ rest _)=>bif rest.isEmpty then 1 else rest.length
  |_=>1)
 |_=>1
def Zjr (E:Env) (ops:Array Oper) (it i:Nat) (ρ:Type) (s:AS) (k:AS→Option ρ):Option ρ:=
 match ops.toList.zipIdx with
 | []=>none
 | (o,_)::l=>(match o.op,o.guard,o.dst with
  | .next (.tmp it') false,none,some d=>bif Nat.beq it' it&&Ze0 E (some d) then(match s.F it with
   | .ptr id []=>(match s.H id with
    |some (.rng kt vt rest _)=>bif Zdr id s.fz then none else
      bif rest.isEmpty then ZeK E ops s.nx s.fz ρ l (ZfK s.F (some d) (.tup (.cons (.d .bool false) .nil))) s.H [] fun F H _=>k ⟨F,H,s.nx+ops.size*ZaB,s.fz⟩
      else(rest[i]?).bind fun e=>ZeK E ops s.nx s.fz ρ l (ZfK s.F (some d) (.tup (.cons (.d .bool true) (.cons (.d kt e.1) (.cons (.d vt e.2) .nil)))))
       (ZbJ s.H id (some (.rng kt vt (rest.eraseIdx i) (some e)))) [] fun F H _=>k ⟨F,H,s.nx+ops.size*ZaB,s.fz⟩
    |_=>none)
   |_=>none) else none
  |_,_,_=>none)
noncomputable def ZbG:Code→ZaU→Env→(ρ:Type)→AS→(Ex→AS→Option ρ)→Option ρ
 | .skip,_,_,_,s,k=>k .normal s
 | .label _,_,_,_,s,k=>k .normal s
 | .scope c,h,E,ρ,s,k=>ZbG c h E ρ s k
 | .region _ ops draw,h,E,ρ,s,k=>ZkJ E ops draw h.outs ρ s (k .normal)
 | .seq a b,h,E,ρ,s,k=>ZbG a h.l E ρ s fun e s' =>match e with
  | .normal=>ZbG b h.r E ρ s' k
  |e=>k e s'
 | .cond c a b,h,E,ρ,s,k=>match aev s.F c with
  | .d .bool t=>(match h.join with
   |none=>bif t then ZbG a h.l E ρ s k else ZbG b h.r E ρ s k
   |some (e,J)=>bif Zd0 s e.kept&&Zcw e J then
     (let s1:AS:= {s with fz:=Zau s e}
      bif t then ZbG a h.l (Zbu E e) (ZeO J) s1 (Zec s (Zau s e) J) else ZbG b h.r (Zbu E e) (ZeO J) s1 (Zec s (Zau s e) J)).bind fun o=>ZeT s J o k
    else none)
  |_=>none
 | .block id c,h,E,ρ,s,k=>ZbG c h E ρ s fun e s' =>match e with
  | .exit i=>bif Nat.beq i id then k .normal s' else k (.exit i) s'
  |e=>k e s'
 | .loop c,h,E,_,s,k=>match h with
  | .lp en J hb=>bif Zd0 s en.kept&&Zcw en J&&Zd4 en.slots then
    (Zgh s (Zau s en) en s).bind fun x=>(run (fun y=>ZbG c hb (Zbu E en) (ElR en.roots ⊕ ZeO J) (Zkm s (Zau s en) en y) fun e s' =>match e with
     | .normal=>(Zgh s (Zau s en) en s').bind fun z=>some (.inl z)
     |e=>(Zec s (Zau s en) J e s').bind fun z=>some (.inr z)) x).bind fun o=>ZeT s J o k
   else none
  | .lpd it en J hb=>(match c with
   | .seq (.region _ ops false) c2=>bif Zd0 s en.kept&&Zcw en J&&Zd4 en.slots then
     (Zgh s (Zau s en) en s).bind fun x=>drun (fun y=>Zfe it (Zkm s (Zau s en) en y)) (fun y i=>Zjr (Zbu E en) ops it i (ElR en.roots ⊕ ZeO J) (Zkm s (Zau s en) en y) fun s1=>ZbG c2 hb (Zbu E en) (ElR en.roots ⊕ ZeO J) s1 fun e s' =>match e with
      | .normal=>(Zgh s (Zau s en) en s').bind fun z=>some (.inl z)
      |e=>(Zec s (Zau s en) J e s').bind fun z=>some (.inr z)) (fun o=>ZeT s J o k) x
    else none
   |_=>none)
  |_=>none
 | .exit id,_,_,_,s,k=>k (.exit id) s
 | .ret,_,_,_,s,k=>k .ret s
 |_,_,_,_,_,_=>none
def AVs.toF:AVs→Nat→AV
 | .nil,_=>Zf3
 | .cons v _,0=>v
 | .cons _ l,n+1=>l.toF n
mutual
def Pat.back:Pat→Bool
 | .own _ k=>k
 | .var _ _=>true
 | .map _ _=>true
 | .rows _ k=>k
 | .mrows _ _=>true
 | .bld _ _ k=>k
 | .agg l=>l.back
 | .fn _ l=>l.back
 |_=>false
def Zam.back:Zam→Bool
 | .nil=>false
 | .cons p l=>p.back||l.back
end
mutual
def Zr5: (p:Pat)→ElP p
 | .pd t=>Zbj t
 | .own _ _=>[]
 | .var _ p=>Zr5 p
 | .ro t=>Zbj t
 | .map _ _=>[]
 | .rows _ _=>[]
 | .mrows _ _=>[]
 | .it _ _=>[]
 | .bld _ _ _=>[]
 | .agg l=>Zpv l
 | .fn _ l=>Zpv l
 | .nilr=>()
 | .nils=>()
 | .any=>()
def Zpv: (l:Zam)→Zdw l
 | .nil=>()
 | .cons p l=>(Zr5 p,Zpv l)
end
mutual
def ZqX: (p:Pat)→Zno p
 | .own _ true=>[]
 | .own _ false=>()
 | .var _ p=>Zr5 p
 | .map _ _=>[]
 | .rows _ true=>[]
 | .rows _ false=>()
 | .mrows _ _=>[]
 | .it _ _=>()
 | .bld _ _ true=>[]
 | .bld _ _ false=>()
 | .agg l=>Zkx l
 | .fn _ l=>Zkx l
 | .pd _=>()
 | .ro _=>()
 | .nilr=>()
 | .nils=>()
 | .any=>()
def Zkx: (l:Zam)→Zcq l
 | .nil=>()
 | .cons p l=>(ZqX p,Zkx l)
end
def ZoN:Pat→AV→Bool
 | .pd t,v=>v.fits t
 | .own t _,v=>v.fits (.sl t)
 | .rows t _,v=>v.fits (.sl (.sl t))
 | .agg _,_=>true
 | .fn _ _,_=>true
 | .any,_=>false
 | .nils,v=>v.fits (.sl .unit)
 |_,v=>v.fits .ref
mutual
def Zcm: (p:Pat)→AV→Acc (Zno p×Ids)
 | .own t true, .vw id=> .getH id fun
  |some (.vec t' xs)=> .opt (ZaO (.sl t') (.sl t) xs) fun y=> .ret (y,⟨[id],[]⟩)
  |_=> .fail
 | .own _ false,_=> .ret ((),Ids.none)
 | .var t p, .ptr id []=> .getH id fun
  |some (.var t' c)=>bif t' ==t&&p.fits t then(ext p c).bind fun r=> .ret (r.1,⟨id::r.2.tk,r.2.br⟩) else .fail
  |_=> .fail
 | .map kt vt, .mp id=> .getH id fun
  |some (.map k e m)=> .opt (ZaO (.sl (.prod k e)) (.sl (.prod kt vt)) m) fun y=> .ret (y,⟨[id],[]⟩)
  |_=> .fail
 | .rows t true, .vw id=> .getH id fun
  |some (.rows t' xs _ none)=> .opt (ZaO (.sl (.sl t')) (.sl (.sl t)) xs) fun y=> .ret (y,⟨[id],[]⟩)
  |_=> .fail
 | .rows _ false,_=> .ret ((),Ids.none)
 | .mrows kt t, .mp id=> .getH id fun
  |some (.mrows k t' m _ none)=> .opt (ZaO (.sl (.prod k (.sl t'))) (.sl (.prod kt (.sl t))) m) fun y=> .ret (y,⟨[id],[]⟩)
  |_=> .fail
 | .it _ _,_=> .ret ((),Ids.none)
 | .bld T e true, .ptr id []=> .getH id fun
  |some (.bld T' e' bs)=>bif Nat.beq T' T&&Nat.beq e' e then .ret (bs,⟨[id],[]⟩) else .fail
  |_=> .fail
 | .bld _ _ false,_=> .ret ((),Ids.none)
 | .agg l, .agg vs=>ZgD l vs
 | .fn f l, .fn f' vs=>bif Nat.beq f' f then ZgD l vs else .fail
 | .pd _,_=> .ret ((),Ids.none)
 | .ro _,_=> .ret ((),Ids.none)
 | .nilr,_=> .ret ((),Ids.none)
 | .nils,_=> .ret ((),Ids.none)
 | .any,_=> .ret ((),Ids.none)
 |_,_=> .fail
def ZgD: (l:Zam)→AVs→Acc (Zcq l×Ids)
 | .nil, .nil=> .ret ((),Ids.none)
 | .cons p l, .cons v vs=>bif ZoN p v then(Zcm p v).bind fun x=>(ZgD l vs).bind fun y=> .ret ((x.1,y.1),x.2.app y.2) else .fail
 |_,_=> .fail
end
def Zh3: (l:Zam)→AVs→Acc (Zcq l×Ids)
 | .nil,_=> .ret ((),Ids.none)
 | .cons p l, .cons v vs=>bif p.back then(Zcm p v).bind fun x=>(Zh3 l vs).bind fun y=> .ret ((x.1,y.1),x.2.app y.2)
   else(Zh3 l vs).bind fun y=> .ret ((ZqX p,y.1),y.2)
 |_,_=> .fail
def Zlb (E:Env) (s:AS):List ResultVar→Acc AVs
 | []=> .ret .nil
 | .tmp t::l=>(Zlb E s l).bind fun vs=> .ret (.cons (s.F t) vs)
 | .cell a T::l=> .opt (E.ty T) fun t=>(match s.F a with
  | .ptr id p=> .getH id fun
   |some (.var _ c)=>(ZgI c p).bind fun v=>bif v.fits t&&v.solid then(Zlb E s l).bind fun vs=> .ret (.cons v vs) else .fail
   |_=> .fail
  |_=> .fail)
def Zbm:Zam→Nat→List Nat
 | .nil,_=>[]
 | .cons p l,n=>(bif p.back then [n] else [])++Zbm l (n+1)
def Zam.len:Zam→Nat
 | .nil=>0
 | .cons _ l=>l.len+1
def ZgW (F:Nat→AV):Zam→Nat→AVs
 | .nil,_=> .nil
 | .cons _ l,n=> .cons (F n) (ZgW F l (n+1))
def ZoJ (E:Env) (results:Array ResultVar) (args res:Zam) (fz:List Nat) (e:Ex) (s:AS):Option (Zcq args×Zdw res):=
 match e with
 | .exit _=>none
 |_=>((Zlb E s results.toList).bind fun vs=>(ZeM res vs).bind fun r=>(Zh3 args (ZgW s.F args 0)).bind fun o=> .ret ((o.1,r.1),o.2.app r.2)).runK s.H [] fun r _=>
   bif r.2.ok fz&&ZdG r.2.br fz then some r.1 else none
def Zoy (ks:List Nat) (av:AVs) (H0:AH) (s:AS):List (Nat×Nat×Nat)→Bool
 | []=>true
 |k::l=>(match av.nth k.1,s.F k.1 with
  |some (.ptr id []), .ptr id' []=>(match H0 id,s.H id' with
   |some (.var T (.agg c)),some (.var T' (.agg c'))=>(match c.nth k.2.1,c'.nth k.2.1 with
    |some (.vw a),some (.vw b)=>Nat.beq a b&&T' ==T&&Nat.beq (Zqx T k.2.1) k.2.2&&Zdr k.1 ks
    |_,_=>false)
   |_,_=>false)
  |_,_=>false) &&Zoy ks av H0 s l
noncomputable def Zaw (E:Env) (body:Code) (results:Array ResultVar) (h:ZaU) (args res:Zam) {α:Type} (pack:Zcq args×Zdw res→α) (x:Zdw args) (kp:List (Nat×Nat×Nat):=[]):Option α:=
 let r:=ZcX args x 0
 ZbG body h {E with ks:=Zbm args 0} α ⟨r.1.toF,Zdg r.2.1,r.2.2,[]⟩ fun e s=>
  (ZoJ E results args res [] e s).bind fun y=>bif Zoy (Zbm args 0) r.1 (Zdg r.2.1) s kp then some (pack y) else none
def mkE (tys:List (Nat×Ty)) (ms:List (Nat×Ty×Ty)) (pks:List (Nat×Nat)) (rws zxs:List Nat) (m:List (Nat×List Spec)) (nt:Nat) (bds:List (Nat×Nat):=[]):Env:=
 {ty:=fun n=>tys.lookup n,mty:=fun n=>ms.lookup n,pk:=fun n=>(pks.lookup n).getD 0,rw:=fun n=>rws.contains n,zx:=fun n=>zxs.contains n,bd:=fun n=>bds.lookup n,specs:=fun n=>(m.lookup n).getD [],nt:=nt,ks:=[] }
def Zal (f:Func):Code:=match f.body with
 |some b=>b
 |none=> .skip
end Tr
