/- The definitions of the abstract machine, the last part: states, regions, code, loops, functions. Conditions: none. -/
import Derived.Test.YtckebckjnfcniaaGreatTrD
namespace Tr
open Go
structure AS where
 F:Nat→AV
 H:AH
 nx:Nat
 fz:List Nat
def ZiF (F:Nat→AV) (n:Nat) (v:AV):Nat→AV:=fun k=>bif Nat.beq k n then v else F k
def Zfm (F:Nat→AV) (d:Option Nat) (v:AV):Nat→AV:=match d with
 |some n=>ZiF F n v
 |none=>F
def Zfu:AV:= .tup .nil
def Zad (H:AH):Zbc→AH
 | []=>H
 |p::l=>Zad (ZbB H p.1 p.2) l
inductive Ex where
 |normal
 |exit (id:Nat)
 |ret
def Ex.beq:Ex→Ex→Bool
 | .normal, .normal=>true
 | .exit a, .exit b=>Nat.beq a b
 | .ret, .ret=>true
 |_,_=>false
def Zhe {σ τ:Type} (step:σ→Option (σ ⊕ τ)):Nat→σ→Option τ
 |0,_=>none
 |n+1,s=>match step s with
  |some (.inl s')=>Zhe step n s'
  |some (.inr r)=>some r
  |none=>none
open Classical in
noncomputable def run {σ τ:Type} (step:σ→Option (σ ⊕ τ)) (s:σ):Option τ:=
 match Zhe step 100000 s with
 |some r=>some r
 |none=>if h: ∃r n,Zhe step n s=some r then some h.choose else none
def Zmc {σ τ ρ:Type} (cnt:σ→Nat) (step:σ→Nat→Option (σ ⊕ τ)) (k:τ→Option ρ) (z:ρ):Nat→σ→Prop
 |0,_=>False
 |n+1,s=> ∀i,i<cnt s→(∃s',step s i=some (.inl s')∧Zmc cnt step k z n s')∨ ∃t,step s i=some (.inr t)∧k t=some z
def Zry {σ τ ρ:Type} (cnt:σ→Nat) (step:σ→Nat→Option (σ ⊕ τ)) (k:τ→Option ρ):Nat→σ→Option ρ
 |0,_=>none
 |n+1,s=>bif Nat.ble (cnt s) 1 then(match step s 0 with
  |some (.inl s')=>Zry cnt step k n s'
  |some (.inr t)=>k t
  |none=>none) else none
open Classical in
noncomputable def drun {σ τ ρ:Type} (cnt:σ→Nat) (step:σ→Nat→Option (σ ⊕ τ)) (k:τ→Option ρ) (s:σ):Option ρ:=
 match Zry cnt step k 1000 s with
 |some r=>some r
 |none=>if h: ∃z n,Zmc cnt step k z n s then some h.choose else none
structure Trc where
 i:Nat
 rd:List Nat
 wr:List Nat
def ZeI (E:Env):Option Nat→Bool
 |some d=>Nat.blt d E.nt&& !Zdp d E.ks
 |none=>true
def Zez (E:Env) (ops:Array Oper) (base:Nat) (fz:List Nat) (ρ:Type):List (Oper×Nat)→(Nat→AV)→AH→List Trc→((Nat→AV)→AH→List Trc→Option ρ)→Option ρ
 | [],F,H,tr,k=>k F H tr
 | (o,i)::rest,F,H,tr,k=>
  let go:=fun(F:Nat→AV)=>bif ZeI E o.dst then
   (aop E (base+i*Zaz) o.op o.type (aev F)).runK H [] fun r rd=>
    bif Zdn (r.2.map Prod.fst) fz then
     Zez E ops base fz ρ rest (Zfm F o.dst r.1) (Zad H r.2) (⟨i,rd,r.2.map Prod.fst⟩::tr) k else none else none
  let skip:=fun(F:Nat→AV)=>bif ZeI E o.dst then Zez E ops base fz ρ rest (Zfm F o.dst Zfu) H tr k else none
  match o.guard with
  |none=>go F
  |some (j,want)=>match (ops[j]?).bind (·.dst) with
   |none=>none
   |some g=>match F g with
    | .d .bool b=>bif b then(bif want then go (ZiF F g (.d .bool true)) else skip (ZiF F g (.d .bool true)))
      else(bif want then skip (ZiF F g (.d .bool false)) else go (ZiF F g (.d .bool false)))
    | .tup .nil=>skip F
    |_=>none
def Zgi:List Operand→List Nat
 | []=>[]
 | .tmp t::l=>t::Zgi l
 |_::l=>Zgi l
def Zd3 (ops:Array Oper) (o:Oper):List Nat:=
 (match o.guard with
  |some (j,_)=>((ops[j]?).bind (·.dst)).toList
  |none=>[])++Zgi o.op.operands.toList
def Zen (ops:Array Oper) (a b:Oper):Bool:=
 (match a.dst with
  |some d=> !Zdp d (Zd3 ops b) && (match b.dst with|some e=> !Nat.beq d e|none=>true)
  |none=>true) &&
 (match b.dst with
  |some d=> !Zdp d (Zd3 ops a)
  |none=>true)
def ZdM (i:Nat):List Trc→Option Trc
 | []=>none
 |t::l=>bif Nat.beq t.i i then some t else ZdM i l
def ZkH (tr:List Trc) (i j:Nat):Bool:=
 match ZdM i tr,ZdM j tr with
 |some a,some b=>Zdn a.wr b.rd&&Zdn a.wr b.wr&&Zdn b.wr a.rd
 |_,_=>true
def Zo3 (ops:Array Oper):List (Nat×Nat):=
 let b:=Region.before ops
 (List.range ops.size).flatMap fun j=>(List.range j).filterMap fun i=>if (b.getD j 0).testBit i then none else some (i,j)
def Zqk (ops:Array Oper):Bool:=(Zo3 ops).all fun p=>match ops[p.1]?,ops[p.2]? with
 |some a,some b=>Zen ops a b
 |_,_=>true
def Zj4 (ops:Array Oper):Bool:=ops.toList.zipIdx.all fun p=>p.1.after.all fun e=> !Region.binds .any e||Nat.blt e.on p.2
def Zho (ops:Array Oper) (tr:List Trc):Bool:=
 Zj4 ops&&Zqk ops&& (tr.all (fun t=>t.wr.isEmpty) || (Zo3 ops).all fun p=>ZkH tr p.1 p.2)
@[reducible] def ElT:List (Nat×Ty)→Type
 | []=>Unit
 | [(_,t)]=>El t
 | (_,t)::p::l=>El t×ElT (p::l)
def ZqZ (F:Nat→AV): (l:List (Nat×Ty))→Option (ElT l)
 | []=>some ()
 | [(n,t)]=>(match F n with
  | .d t' x=>ZaM t' t x
  |_=>none)
 | (n,t)::p::l=>(match F n with
  | .d t' x=>(ZaM t' t x).bind fun y=>(ZqZ F (p::l)).bind fun z=>some (y,z)
  |_=>none)
def inT (F:Nat→AV): (l:List (Nat×Ty))→ElT l→Nat→AV
 | [],_=>F
 | [(n,t)],x=>ZiF F n (.d t x)
 | (n,t)::p::l,x=>inT (ZiF F n (.d t x.1)) (p::l) x.2
def Zqi (l:List Nat) (F:Nat→AV):Nat→AV:=fun k=>bif Zdp k l then .junk else F k
def Zlx (ops:List Oper):List Nat:=ops.filterMap (·.dst)
def Zkq (E:Env) (ops:Array Oper) (draw:Bool) (outs:Option (List (Nat×Ty))) (ρ:Type) (s:AS) (k:AS→Option ρ):Option ρ:=
 let nx:=s.nx+ops.size*Zaz
 match outs with
 |none=>Zez E ops s.nx s.fz ρ ops.toList.zipIdx s.F s.H [] fun F H tr=>bif !draw||Zho ops tr then k ⟨F,H,nx,s.fz⟩ else none
 |some l=>(Zez E ops s.nx s.fz (ElT l) ops.toList.zipIdx s.F s.H [] fun F _ tr=>bif (!draw||Zho ops tr) &&tr.all (fun t=>t.wr.isEmpty) then ZqZ F l else none).bind
   fun x=>k ⟨inT (Zqi (Zlx ops.toList) s.F) l x,s.H,nx,s.fz⟩
structure Zf4 where
 roots:List (Nat×Pat)
 fns:List (Nat×FuncId×List Nat):=[]
 kept:List Nat:=[]
 als:List (Nat×Nat):=[]
 kf:List (Nat×Nat×Nat):=[]
 kv:List Nat:=[]
@[reducible] def ElR:List (Nat×Pat)→Type
 | []=>Unit
 | [(_,p)]=>ElP p
 | (_,p)::q::l=>ElP p×ElR (q::l)
def Zqe (F:Nat→AV): (l:List (Nat×Pat))→Acc (ElR l×Ids)
 | []=> .ret ((),Ids.none)
 | [(n,p)]=>ext p (F n)
 | (n,p)::q::l=>(ext p (F n)).bind fun x=>(Zqe F (q::l)).bind fun y=> .ret ((x.1,y.1),x.2.app y.2)
def ZdZ: (l:List (Nat×Pat))→ElR l→Nat→List (Nat×AV) ×List (Nat×Zdx) ×Nat
 | [],_,n=>([],[],n)
 | [(m,p)],x,n=>let r:=inj p x n;([(m,r.1)],r.2.1,r.2.2)
 | (m,p)::q::l,x,n=>let r:=inj p x.1 n;let s:=ZdZ (q::l) x.2 r.2.2;((m,r.1)::s.1,r.2.1++s.2.1,s.2.2)
def Zjn:List (Nat×AV)→Nat→AV
 | [],_=> .junk
 |p::l,k=>bif Nat.beq k p.1 then p.2 else Zjn l k
def Zc9:List (Nat×Zdx)→AH
 | [],_=>none
 |p::l,k=>bif Nat.beq k p.1 then some p.2 else Zc9 l k
def AV.box? :AV→Option Nat
 | .ptr id []=>some id
 |_=>none
def ZdN (F:Nat→AV):AVs→List Nat→Bool
 | .nil,[]=>true
 | .cons v l,n::m=>(match v.box?,(F n).box? with
  |some a,some b=>Nat.beq a b
  |_,_=>false) &&ZdN F l m
 |_,_=>false
def ZmU (F:Nat→AV):List (Nat×FuncId×List Nat)→Bool
 | []=>true
 | (n,f,l)::m=>(match F n with
  | .fn f' caps=>Nat.beq f' f&&ZdN F caps l
  |_=>false) &&ZmU F m
def ZlE (F:Nat→AV):List (Nat×FuncId×List Nat)→Nat→AV
 | []=>F
 | (n,f,l)::m=>ZiF (ZlE F m) n (.fn f (AVs.ofList (l.map F)))
def ZmV (x y:AV):Bool:=match x,y with
 | .vw a, .vw b=>Nat.beq a b
 | .mp a, .mp b=>Nat.beq a b
 | .ptr a [], .ptr b []=>Nat.beq a b
 | .nils, .nils=>true
 |_,_=>false
def Zoo (F:Nat→AV):List (Nat×Nat)→Bool
 | []=>true
 |p::l=>ZmV (F p.1) (F p.2) &&Zoo F l
def Zlc (F:Nat→AV):List (Nat×Nat)→Nat→AV
 | []=>F
 |p::l=>ZiF (Zlc F l) p.1 (F p.2)
def AV.boxes:AVs→List Nat
 | .nil=>[]
 | .cons v l=>v.box?.toList++AV.boxes l
def ZcS (s:AS):List Nat→List Nat
 | []=>[]
 |n::l=>(match s.F n with
  | .ptr id []=>[id]
  | .vw id=>[id]
  | .nw id _ _ _=>[id]
  | .mp id=>[id]
  | .fn _ caps=>AV.boxes caps
  |_=>[])++ZcS s l
def ZiG (H:AH) (id:Nat):Bool:=match H id with
 |some (.var _ (.d _ _))=>true
 |some (.vec _ _)=>true
 |some (.map _ _ _)=>true
 |some (.rows _ _ _ none)=>true
 |some (.mrows _ _ _ _ none)=>true
 |some (.rng _ _ _ _)=>true
 |some (.dat _ _)=>true
 |some (.bld _ _ _)=>true
 |_=>false
def ZkY (H:AH):AVs→Bool
 | .nil=>true
 | .cons v l=>(match v with
  | .ptr id []=>ZiG H id
  | .dp _ _=>true
  | .d _ _=>true
  |_=>false) &&ZkY H l
def ZdO (s:AS):List Nat→Bool
 | []=>true
 |n::l=>(match s.F n with
  | .d _ _=>true
  | .dp _ _=>true
  | .nilr=>true
  | .nils=>true
  | .ptr id []=>ZiG s.H id
  | .vw id=>ZiG s.H id
  | .nw id _ _ _=>ZiG s.H id
  | .mp id=>ZiG s.H id
  | .fn _ caps=>ZkY s.H caps
  |_=>false) &&ZdO s l
def Zau (b:AS) (e:Zf4):List Nat:=ZcS b e.kept++b.fz
def Zbo (E:Env) (e:Zf4):Env:= {E with ks:=e.kept++(e.kv++E.ks) }
def Zov (fz:List Nat) (e:Zf4) (s:AS):Option (ElR e.roots):=
 (Zqe s.F e.roots).runK s.H [] fun r _=>bif r.2.ok fz&&Zdn r.2.br fz&&ZmU s.F e.fns&&Zoo s.F e.als then some r.1 else none
def Zmn (b:AS) (fz:List Nat) (e:Zf4) (x:ElR e.roots):AS:=
 let r:=ZdZ e.roots x b.nx
 ⟨Zlc (ZlE (fun k=>bif Zdp k e.kept then b.F k else Zjn r.1 k) e.fns) e.als,fun id=>bif Zdp id (Zau b e) then b.H id else Zc9 r.2.1 id,r.2.2,fz⟩
def Zmi (s:AS) (k:Nat×Nat×Nat):Option Nat:=match s.F k.1 with
 | .ptr id []=>(match s.H id with
  |some (.var T (.agg c))=>(match c.nth k.2.1 with
   |some (.vw a)=>bif Nat.beq (ZpI T k.2.1) k.2.2 then some a else none
   |_=>none)
  |_=>none)
 |_=>none
def Zra (b s:AS):List (Nat×Nat×Nat)→Bool
 | []=>true
 |k::l=>(match Zmi b k,Zmi s k with
  |some x,some y=>Nat.beq x y
  |_,_=>false) &&Zra b s l
def Zpv (b:AS) (fz:List Nat) (k:Nat×Nat×Nat) (s:AS):AS:=match Zmi b k,Zmi s k,s.F k.1 with
 |some a,some a2, .ptr id []=>(match s.H id,s.H a2,b.H a with
  |some (.var T (.agg c)),some (.vec t xs),some (.vec t0 _)=>bif t0==t&& !Nat.beq a2 id&& !Nat.beq a id&& !Zdp a fz&& !Zdp a2 fz&& !Zdp id fz then
    {s with H:=ZbB (ZbB (ZbB (ZbB s.H a2 none) id none) a (some (.vec t xs))) id (some (.var T (.agg (c.putNth k.2.1 (.vw a))))) } else s
  |_,_,_=>s)
 |_,_,_=>s
def ZpX (b:AS) (fz:List Nat):List (Nat×Nat×Nat)→AS→AS
 | [],s=>s
 |k::l,s=>ZpX b fz l (Zpv b fz k s)
def Zp6 (b:AS):List Nat→(Nat→AV)→Nat→AV
 | [],F=>F
 |n::l,F=>Zp6 b l (ZiF F n (b.F n))
def ZfT (b:AS) (fz:List Nat) (e:Zf4) (s:AS):Option (ElR e.roots):=bif Zra b s e.kf then Zov fz e s else none
def ZjK (b:AS) (fz:List Nat) (e:Zf4) (x:ElR e.roots):AS:=
 let s:=ZpX b (Zau b e) e.kf (Zmn b fz e x)
 ⟨Zp6 b e.kv s.F,s.H,s.nx,fz⟩
abbrev ZfV:=List (Ex×Zf4)
@[reducible] def Zex:ZfV→Type
 | []=>Empty
 | [e]=>ElR e.2.roots
 |e::f::l=>ElR e.2.roots ⊕ Zex (f::l)
def Zd2 (b:AS) (fz:List Nat): (J:ZfV)→Ex→AS→Option (Zex J)
 | [],_,_=>none
 | [e],x,s=>bif x.beq e.1 then ZfT b fz e.2 s else none
 |e::f::l,x,s=>bif x.beq e.1 then(ZfT b fz e.2 s).bind fun y=>some (.inl y) else(Zd2 b fz (f::l) x s).bind fun y=>some (.inr y)
def ZeB {ρ:Type} (b:AS): (J:ZfV)→Zex J→(Ex→AS→Option ρ)→Option ρ
 | [],_,_=>none
 | [e],y,k=>k e.1 (ZjK b b.fz e.2 y)
 |e::f::l,y,k=>match y with
  | .inl y=>k e.1 (ZjK b b.fz e.2 y)
  | .inr y=>ZeB b (f::l) y k
def Zf4.slots (e:Zf4):List Nat:=e.roots.map Prod.fst++e.fns.map Prod.fst++e.kept
def Zcj (e:Zf4):ZfV→Bool
 | []=>true
 |f::l=>f.2.kept.all (fun n=>Zdp n e.kept) &&f.2.kv.all (fun n=>Zdp n e.kv) &&ZdR f.2.slots&&Zcj e l
inductive ZaY where
 |leaf
 |seq (a b:ZaY)
 |cnd (J:Option (Zf4×ZfV)) (a b:ZaY)
 |lp (e:Zf4) (J:ZfV) (h:ZaY)
 |lpd (it:Nat) (e:Zf4) (J:ZfV) (h:ZaY)
 |reg (outs:List (Nat×Ty))
def ZaY.l:ZaY→ZaY
 | .seq a _=>a
 | .cnd _ a _=>a
 |_=> .leaf
def ZaY.r:ZaY→ZaY
 | .seq _ b=>b
 | .cnd _ _ b=>b
 |_=> .leaf
def ZaY.join:ZaY→Option (Zf4×ZfV)
 | .cnd J _ _=>J
 |_=>none
def ZaY.outs:ZaY→Option (List (Nat×Ty))
 | .reg l=>some l
 |_=>none
def ZeV (it:Nat) (s:AS):Nat:=match s.F it with
 | .ptr id []=>(match s.H id with
  |some (.rng _ _ rest _)=>bif rest.isEmpty then 1 else rest.length
  |_=>1)
 |_=>1
def Zi5 (E:Env) (ops:Array Oper) (it i:Nat) (ρ:Type) (s:AS) (k:AS→Option ρ):Option ρ:=
 match ops.toList.zipIdx with
 | []=>none
 | (o,_)::l=>(match o.op,o.guard,o.dst with
  | .next (.tmp it') false,none,some d=>bif Nat.beq it' it&&ZeI E (some d) then(match s.F it with
   | .ptr id []=>(match s.H id with
    |some (.rng kt vt rest _)=>bif Zdp id s.fz then none else
      bif rest.isEmpty then Zez E ops s.nx s.fz ρ l (Zfm s.F (some d) (.tup (.cons (.d .bool false) .nil))) s.H [] fun F H _=>k ⟨F,H,s.nx+ops.size*Zaz,s.fz⟩
      else(rest[i]?).bind fun e=>Zez E ops s.nx s.fz ρ l (Zfm s.F (some d) (.tup (.cons (.d .bool true) (.cons (.d kt e.1) (.cons (.d vt e.2) .nil)))))
       (ZbB s.H id (some (.rng kt vt (rest.eraseIdx i) (some e)))) [] fun F H _=>k ⟨F,H,s.nx+ops.size*Zaz,s.fz⟩
    |_=>none)
   |_=>none) else none
  |_,_,_=>none)
noncomputable def Zbx:Code→ZaY→Env→(ρ:Type)→AS→(Ex→AS→Option ρ)→Option ρ
 | .skip,_,_,_,s,k=>k .normal s
 | .label _,_,_,_,s,k=>k .normal s
 | .scope c,h,E,ρ,s,k=>Zbx c h E ρ s k
 | .region _ ops draw,h,E,ρ,s,k=>Zkq E ops draw h.outs ρ s (k .normal)
 | .seq a b,h,E,ρ,s,k=>Zbx a h.l E ρ s fun e s' =>match e with
  | .normal=>Zbx b h.r E ρ s' k
  |e=>k e s'
 | .cond c a b,h,E,ρ,s,k=>match aev s.F c with
  | .d .bool t=>(match h.join with
   |none=>bif t then Zbx a h.l E ρ s k else Zbx b h.r E ρ s k
   |some (e,J)=>bif ZdO s e.kept&&Zcj e J then
     (let s1:AS:= {s with fz:=Zau s e}
      bif t then Zbx a h.l (Zbo E e) (Zex J) s1 (Zd2 s (Zau s e) J) else Zbx b h.r (Zbo E e) (Zex J) s1 (Zd2 s (Zau s e) J)).bind fun o=>ZeB s J o k
    else none)
  |_=>none
 | .block id c,h,E,ρ,s,k=>Zbx c h E ρ s fun e s' =>match e with
  | .exit i=>bif Nat.beq i id then k .normal s' else k (.exit i) s'
  |e=>k e s'
 | .loop c,h,E,_,s,k=>match h with
  | .lp en J hb=>bif ZdO s en.kept&&Zcj en J&&ZdR en.slots then
    (ZfT s (Zau s en) en s).bind fun x=>(run (fun y=>Zbx c hb (Zbo E en) (ElR en.roots ⊕ Zex J) (ZjK s (Zau s en) en y) fun e s' =>match e with
     | .normal=>(ZfT s (Zau s en) en s').bind fun z=>some (.inl z)
     |e=>(Zd2 s (Zau s en) J e s').bind fun z=>some (.inr z)) x).bind fun o=>ZeB s J o k
   else none
  | .lpd it en J hb=>(match c with
   | .seq (.region _ ops false) c2=>bif ZdO s en.kept&&Zcj en J&&ZdR en.slots then
     (ZfT s (Zau s en) en s).bind fun x=>drun (fun y=>ZeV it (ZjK s (Zau s en) en y)) (fun y i=>Zi5 (Zbo E en) ops it i (ElR en.roots ⊕ Zex J) (ZjK s (Zau s en) en y) fun s1=>Zbx c2 hb (Zbo E en) (ElR en.roots ⊕ Zex J) s1 fun e s' =>match e with
      | .normal=>(ZfT s (Zau s en) en s').bind fun z=>some (.inl z)
      |e=>(Zd2 s (Zau s en) J e s').bind fun z=>some (.inr z)) (fun o=>ZeB s J o k) x
    else none
   |_=>none)
  |_=>none
 | .exit id,_,_,_,s,k=>k (.exit id) s
 | .ret,_,_,_,s,k=>k .ret s
 |_,_,_,_,_,_=>none
def AVs.toF:AVs→Nat→AV
 | .nil,_=>Zfu
 | .cons v _,0=>v
 | .cons _ l,n+1=>l.toF n
mutual
def Pat.back:Pat→Bool
 | .own _ k=>k
 | .var _ _=>true
 | .map _ _=>true
 | .rows _ k=>k
 | .mrows _ _=>true
 | .bld _ _ k=>k
 | .agg l=>l.back
 | .fn _ l=>l.back
 |_=>false
def Zam.back:Zam→Bool
 | .nil=>false
 | .cons p l=>p.back||l.back
end
mutual
def Zp1: (p:Pat)→ElP p
 | .pd t=>Zbf t
 | .own _ _=>[]
 | .var _ p=>Zp1 p
 | .ro t=>Zbf t
 | .map _ _=>[]
 | .rows _ _=>[]
 | .mrows _ _=>[]
 | .it _ _=>[]
 | .bld _ _ _=>[]
 | .agg l=>Zob l
 | .fn _ l=>Zob l
 | .nilr=>()
 | .nils=>()
 | .any=>()
def Zob: (l:Zam)→Zdk l
 | .nil=>()
 | .cons p l=>(Zp1 p,Zob l)
end
mutual
def ZpW: (p:Pat)→Zmz p
 | .own _ true=>[]
 | .own _ false=>()
 | .var _ p=>Zp1 p
 | .map _ _=>[]
 | .rows _ true=>[]
 | .rows _ false=>()
 | .mrows _ _=>[]
 | .it _ _=>()
 | .bld _ _ true=>[]
 | .bld _ _ false=>()
 | .agg l=>Zj8 l
 | .fn _ l=>Zj8 l
 | .pd _=>()
 | .ro _=>()
 | .nilr=>()
 | .nils=>()
 | .any=>()
def Zj8: (l:Zam)→Zcd l
 | .nil=>()
 | .cons p l=>(ZpW p,Zj8 l)
end
def Zoy:Pat→AV→Bool
 | .pd t,v=>v.fits t
 | .own t _,v=>v.fits (.sl t)
 | .rows t _,v=>v.fits (.sl (.sl t))
 | .agg _,_=>true
 | .fn _ _,_=>true
 | .any,_=>false
 | .nils,v=>v.fits (.sl .unit)
 |_,v=>v.fits .ref
mutual
def Zca: (p:Pat)→AV→Acc (Zmz p×Ids)
 | .own t true, .vw id=> .getH id fun
  |some (.vec t' xs)=> .opt (ZaM (.sl t') (.sl t) xs) fun y=> .ret (y,⟨[id],[]⟩)
  |_=> .fail
 | .own _ false,_=> .ret ((),Ids.none)
 | .var t p, .ptr id []=> .getH id fun
  |some (.var t' c)=>bif t' ==t&&p.fits t then(ext p c).bind fun r=> .ret (r.1,⟨id::r.2.tk,r.2.br⟩) else .fail
  |_=> .fail
 | .map kt vt, .mp id=> .getH id fun
  |some (.map k e m)=> .opt (ZaM (.sl (.prod k e)) (.sl (.prod kt vt)) m) fun y=> .ret (y,⟨[id],[]⟩)
  |_=> .fail
 | .rows t true, .vw id=> .getH id fun
  |some (.rows t' xs _ none)=> .opt (ZaM (.sl (.sl t')) (.sl (.sl t)) xs) fun y=> .ret (y,⟨[id],[]⟩)
  |_=> .fail
 | .rows _ false,_=> .ret ((),Ids.none)
 | .mrows kt t, .mp id=> .getH id fun
  |some (.mrows k t' m _ none)=> .opt (ZaM (.sl (.prod k (.sl t'))) (.sl (.prod kt (.sl t))) m) fun y=> .ret (y,⟨[id],[]⟩)
  |_=> .fail
 | .it _ _,_=> .ret ((),Ids.none)
 | .bld T e true, .ptr id []=> .getH id fun
  |some (.bld T' e' bs)=>bif Nat.beq T' T&&Nat.beq e' e then .ret (bs,⟨[id],[]⟩) else .fail
  |_=> .fail
 | .bld _ _ false,_=> .ret ((),Ids.none)
 | .agg l, .agg vs=>ZgP l vs
 | .fn f l, .fn f' vs=>bif Nat.beq f' f then ZgP l vs else .fail
 | .pd _,_=> .ret ((),Ids.none)
 | .ro _,_=> .ret ((),Ids.none)
 | .nilr,_=> .ret ((),Ids.none)
 | .nils,_=> .ret ((),Ids.none)
 | .any,_=> .ret ((),Ids.none)
 |_,_=> .fail
def ZgP: (l:Zam)→AVs→Acc (Zcd l×Ids)
 | .nil, .nil=> .ret ((),Ids.none)
 | .cons p l, .cons v vs=>bif Zoy p v then(Zca p v).bind fun x=>(ZgP l vs).bind fun y=> .ret ((x.1,y.1),x.2.app y.2) else .fail
 |_,_=> .fail
end
def ZhS: (l:Zam)→AVs→Acc (Zcd l×Ids)
 | .nil,_=> .ret ((),Ids.none)
 | .cons p l, .cons v vs=>bif p.back then(Zca p v).bind fun x=>(ZhS l vs).bind fun y=> .ret ((x.1,y.1),x.2.app y.2)
   else(ZhS l vs).bind fun y=> .ret ((ZpW p,y.1),y.2)
 |_,_=> .fail
def ZjM (E:Env) (s:AS):List ResultVar→Acc AVs
 | []=> .ret .nil
 | .tmp t::l=>(ZjM E s l).bind fun vs=> .ret (.cons (s.F t) vs)
 | .cell a T::l=> .opt (E.ty T) fun t=>(match s.F a with
  | .ptr id p=> .getH id fun
   |some (.var _ c)=>(ZgK c p).bind fun v=>bif v.fits t&&v.solid then(ZjM E s l).bind fun vs=> .ret (.cons v vs) else .fail
   |_=> .fail
  |_=> .fail)
def Zbh:Zam→Nat→List Nat
 | .nil,_=>[]
 | .cons p l,n=>(bif p.back then [n] else [])++Zbh l (n+1)
def Zam.len:Zam→Nat
 | .nil=>0
 | .cons _ l=>l.len+1
def ZgR (F:Nat→AV):Zam→Nat→AVs
 | .nil,_=> .nil
 | .cons _ l,n=> .cons (F n) (ZgR F l (n+1))
def Zno (E:Env) (results:Array ResultVar) (args res:Zam) (fz:List Nat) (e:Ex) (s:AS):Option (Zcd args×Zdk res):=
 match e with
 | .exit _=>none
 |_=>((ZjM E s results.toList).bind fun vs=>(Zev res vs).bind fun r=>(ZhS args (ZgR s.F args 0)).bind fun o=> .ret ((o.1,r.1),o.2.app r.2)).runK s.H [] fun r _=>
   bif r.2.ok fz&&Zdn r.2.br fz then some r.1 else none
def ZnO (ks:List Nat) (av:AVs) (H0:AH) (s:AS):List (Nat×Nat×Nat)→Bool
 | []=>true
 |k::l=>(match av.nth k.1,s.F k.1 with
  |some (.ptr id []), .ptr id' []=>(match H0 id,s.H id' with
   |some (.var T (.agg c)),some (.var T' (.agg c'))=>(match c.nth k.2.1,c'.nth k.2.1 with
    |some (.vw a),some (.vw b)=>Nat.beq a b&&T' ==T&&Nat.beq (ZpI T k.2.1) k.2.2&&Zdp k.1 ks
    |_,_=>false)
   |_,_=>false)
  |_,_=>false) &&ZnO ks av H0 s l
noncomputable def ZaA (E:Env) (body:Code) (results:Array ResultVar) (h:ZaY) (args res:Zam) {α:Type} (pack:Zcd args×Zdk res→α) (x:Zdk args) (kp:List (Nat×Nat×Nat):=[]):Option α:=
 let r:=ZcH args x 0
 Zbx body h {E with ks:=Zbh args 0} α ⟨r.1.toF,Zc9 r.2.1,r.2.2,[]⟩ fun e s=>
  (Zno E results args res [] e s).bind fun y=>bif ZnO (Zbh args 0) r.1 (Zc9 r.2.1) s kp then some (pack y) else none
def mkE (tys:List (Nat×Ty)) (ms:List (Nat×Ty×Ty)) (pks:List (Nat×Nat)) (rws zxs:List Nat) (m:List (Nat×List Spec)) (nt:Nat) (bds:List (Nat×Nat):=[]):Env:=
 {ty:=fun n=>tys.lookup n,mty:=fun n=>ms.lookup n,pk:=fun n=>(pks.lookup n).getD 0,rw:=fun n=>rws.contains n,zx:=fun n=>zxs.contains n,bd:=fun n=>bds.lookup n,specs:=fun n=>(m.lookup n).getD [],nt:=nt,ks:=[] }
def Zal (f:Func):Code:=match f.body with
 |some b=>b
 |none=> .skip
end Tr
