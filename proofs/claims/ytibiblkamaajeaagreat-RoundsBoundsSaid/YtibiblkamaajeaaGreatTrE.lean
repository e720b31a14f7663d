/- The definitions of the abstract machine, the last part: states, regions, code, loops, functions. Conditions: none. -/
import Derived.Test.YtibiblkamaajeaaGreatTrD
namespace Tr
open Go
structure AS where
 F:Nat→AV
 H:AH
 nx:Nat
 fz:List Nat
def Zko (F:Nat→AV) (n:Nat) (v:AV):Nat→AV:=fun k=>bif Nat.beq k n then v else F k
def Zgo (F:Nat→AV) (d:Option Nat) (v:AV):Nat→AV:=match d with
 |some n=>Zko F n v
 |none=>F
def Zgw:AV:= .tup .nil
def Zad (H:AH):Zbp→AH
 | []=>H
 |p::l=>Zad (ZbU H p.1 p.2) l
inductive Ex where
 |normal
 |exit (id:Nat)
 |ret
def Ex.beq:Ex→Ex→Bool
 | .normal, .normal=>true
 | .exit a, .exit b=>Nat.beq a b
 | .ret, .ret=>true
 |_,_=>false
def Ziu {σ τ:Type} (step:σ→Option (σ ⊕ τ)):Nat→σ→Option τ
 |0,_=>none
 |n+1,s=>match step s with
  |some (.inl s')=>Ziu step n s'
  |some (.inr r)=>some r
  |none=>none
open Classical in
noncomputable def run {σ τ:Type} (step:σ→Option (σ ⊕ τ)) (s:σ):Option τ:=
 match Ziu step 100000 s with
 |some r=>some r
 |none=>if h: ∃r n,Ziu step n s=some r then some h.choose else none
def ZoE {σ τ ρ:Type} (cnt:σ→Nat) (step:σ→Nat→Option (σ ⊕ τ)) (k:τ→Option ρ) (z:ρ):Nat→σ→Prop
 |0,_=>False
 |n+1,s=> ∀i,i<cnt s→(∃s',step s i=some (.inl s')∧ZoE cnt step k z n s')∨ ∃t,step s i=some (.inr t)∧k t=some z
def ZuA {σ τ ρ:Type} (cnt:σ→Nat) (step:σ→Nat→Option (σ ⊕ τ)) (k:τ→Option ρ):Nat→σ→Option ρ
 |0,_=>none
 |n+1,s=>bif Nat.ble (cnt s) 1 then(match step s 0 with
  |some (.inl s')=>ZuA cnt step k n s'
  |some (.inr t)=>k t
  |none=>none) else none
open Classical in
noncomputable def drun {σ τ ρ:Type} (cnt:σ→Nat) (step:σ→Nat→Option (σ ⊕ τ)) (k:τ→Option ρ) (s:σ):Option ρ:=
 match ZuA cnt step k 1000 s with
 |some r=>some r
 |none=>if h: ∃z n,ZoE cnt step k z n s then some h.choose else none
structure Trc where
 i:Nat
 rd:List Nat
 wr:List Nat
def ZfG (E:Env):Option Nat→Bool
 |some d=>Nat.blt d E.nt&& !ZdP d E.ks
 |none=>true
def Zfk (E:Env) (ops:Array Oper) (base:Nat) (fz:List Nat) (ρ:Type):List (Oper×Nat)→(Nat→AV)→AH→List Trc→((Nat→AV)→AH→List Trc→Option ρ)→Option ρ
 | [],F,H,tr,k=>k F H tr
 | (o,i)::rest,F,H,tr,k=>
  let go:=fun(F:Nat→AV)=>bif ZfG E o.dst then
   (aop E (base+i*ZaG) o.op o.type (aev F)).runK H [] fun r rd=>
    bif ZdQ (r.2.map Prod.fst) fz then
     Zfk E ops base fz ρ rest (Zgo F o.dst r.1) (Zad H r.2) (⟨i,rd,r.2.map Prod.fst⟩::tr) k else none else none
  let skip:=fun(F:Nat→AV)=>bif ZfG E o.dst then Zfk E ops base fz ρ rest (Zgo F o.dst Zgw) H tr k else none
  match o.guard with
  |none=>go F
  |some (j,want)=>match (ops[j]?).bind (·.dst) with
   |none=>none
   |some g=>match F g with
    | .d .bool b=>bif b then(bif want then go (Zko F g (.d .bool true)) else skip (Zko F g (.d .bool true)))
      else(bif want then skip (Zko F g (.d .bool false)) else go (Zko F g (.d .bool false)))
    | .tup .nil=>skip F
    |_=>none
def Zhu:List Operand→List Nat
 | []=>[]
 | .tmp t::l=>t::Zhu l
 |_::l=>Zhu l
def Zex (ops:Array Oper) (o:Oper):List Nat:=
 (match o.guard with
  |some (j,_)=>((ops[j]?).bind (·.dst)).toList
  |none=>[])++Zhu o.op.operands.toList
def Zfe (ops:Array Oper) (a b:Oper):Bool:=
 (match a.dst with
  |some d=> !ZdP d (Zex ops b) && (match b.dst with|some e=> !Nat.beq d e|none=>true)
  |none=>true) &&
 (match b.dst with
  |some d=> !ZdP d (Zex ops a)
  |none=>true)
def Zen (i:Nat):List Trc→Option Trc
 | []=>none
 |t::l=>bif Nat.beq t.i i then some t else Zen i l
def Znm (tr:List Trc) (i j:Nat):Bool:=
 match Zen i tr,Zen j tr with
 |some a,some b=>ZdQ a.wr b.rd&&ZdQ a.wr b.wr&&ZdQ b.wr a.rd
 |_,_=>true
def Zsn (ops:Array Oper):List (Nat×Nat):=
 let b:=Region.before ops
 (List.range ops.size).flatMap fun j=>(List.range j).filterMap fun i=>if (b.getD j 0).testBit i then none else some (i,j)
def Ztg (ops:Array Oper):Bool:=(Zsn ops).all fun p=>match ops[p.1]?,ops[p.2]? with
 |some a,some b=>Zfe ops a b
 |_,_=>true
def ZlT (ops:Array Oper):Bool:=ops.toList.zipIdx.all fun p=>p.1.after.all fun e=> !Region.binds .any e||Nat.blt e.on p.2
def ZiZ (ops:Array Oper) (tr:List Trc):Bool:=
 ZlT ops&&Ztg ops&& (tr.all (fun t=>t.wr.isEmpty) || (Zsn ops).all fun p=>Znm tr p.1 p.2)
@[reducible] def ElT:List (Nat×Ty)→Type
 | []=>Unit
 | [(_,t)]=>El t
 | (_,t)::p::l=>El t×ElT (p::l)
def Zua (F:Nat→AV): (l:List (Nat×Ty))→Option (ElT l)
 | []=>some ()
 | [(n,t)]=>(match F n with
  | .d t' x=>ZaS t' t x
  |_=>none)
 | (n,t)::p::l=>(match F n with
  | .d t' x=>(ZaS t' t x).bind fun y=>(Zua F (p::l)).bind fun z=>some (y,z)
  |_=>none)
def inT (F:Nat→AV): (l:List (Nat×Ty))→ElT l→Nat→AV
 | [],_=>F
 | [(n,t)],x=>Zko F n (.d t x)
 | (n,t)::p::l,x=>inT (Zko F n (.d t x.1)) (p::l) x.2
def Zty (l:List Nat) (F:Nat→AV):Nat→AV:=fun k=>bif ZdP k l then .junk else F k
def ZmY (ops:List Oper):List Nat:=ops.filterMap (·.dst)
def Zmz (E:Env) (ops:Array Oper) (draw:Bool) (outs:Option (List (Nat×Ty))) (ρ:Type) (s:AS) (k:AS→Option ρ):Option ρ:=
 let nx:=s.nx+ops.size*ZaG
 match outs with
 |none=>Zfk E ops s.nx s.fz ρ ops.toList.zipIdx s.F s.H [] fun F H tr=>bif !draw||ZiZ ops tr then k ⟨F,H,nx,s.fz⟩ else none
 |some l=>(Zfk E ops s.nx s.fz (ElT l) ops.toList.zipIdx s.F s.H [] fun F _ tr=>bif (!draw||ZiZ ops tr) &&tr.all (fun t=>t.wr.isEmpty) then Zua F l else none).bind
   fun x=>k ⟨inT (Zty (ZmY ops.toList) s.F) l x,s.H,nx,s.fz⟩
structure Zhg where
 roots:List (Nat×Pat)
 fns:List (Nat×FuncId×List Nat):=[]
 kept:List Nat:=[]
 als:List (Nat×Nat):=[]
 kf:List (Nat×Nat×Nat):=[]
 kv:List Nat:=[]
@[reducible] def ElR:List (Nat×Pat)→Type
 | []=>Unit
 | [(_,p)]=>ElP p
 | (_,p)::q::l=>ElP p×ElR (q::l)
def Zth (F:Nat→AV): (l:List (Nat×Pat))→Acc (ElR l×Ids)
 | []=> .ret ((),Ids.none)
 | [(n,p)]=>ext p (F n)
 | (n,p)::q::l=>(ext p (F n)).bind fun x=>(Zth F (q::l)).bind fun y=> .ret ((x.1,y.1),x.2.app y.2)
def Zew: (l:List (Nat×Pat))→ElR l→Nat→List (Nat×AV) ×List (Nat×Zd7) ×Nat
 | [],_,n=>([],[],n)
 | [(m,p)],x,n=>let r:=inj p x n;([(m,r.1)],r.2.1,r.2.2)
 | (m,p)::q::l,x,n=>let r:=inj p x.1 n;let s:=Zew (q::l) x.2 r.2.2;((m,r.1)::s.1,r.2.1++s.2.1,s.2.2)
def ZkR:List (Nat×AV)→Nat→AV
 | [],_=> .junk
 |p::l,k=>bif Nat.beq k p.1 then p.2 else ZkR l k
def ZdH:List (Nat×Zd7)→AH
 | [],_=>none
 |p::l,k=>bif Nat.beq k p.1 then some p.2 else ZdH l k
def AV.box? :AV→Option Nat
 | .ptr id []=>some id
 |_=>none
def Zeh (F:Nat→AV):AVs→List Nat→Bool
 | .nil,[]=>true
 | .cons v l,n::m=>(match v.box?,(F n).box? with
  |some a,some b=>Nat.beq a b
  |_,_=>false) &&Zeh F l m
 |_,_=>false
def ZqR (F:Nat→AV):List (Nat×FuncId×List Nat)→Bool
 | []=>true
 | (n,f,l)::m=>(match F n with
  | .fn f' caps=>Nat.beq f' f&&Zeh F caps l
  |_=>false) &&ZqR F m
def Znv (F:Nat→AV):List (Nat×FuncId×List Nat)→Nat→AV
 | []=>F
 | (n,f,l)::m=>Zko (Znv F m) n (.fn f (AVs.ofList (l.map F)))
def ZpR (x y:AV):Bool:=match x,y with
 | .vw a, .vw b=>Nat.beq a b
 | .mp a, .mp b=>Nat.beq a b
 | .ptr a [], .ptr b []=>Nat.beq a b
 | .nils, .nils=>true
 |_,_=>false
def ZpC (F:Nat→AV):List (Nat×Nat)→Bool
 | []=>true
 |p::l=>ZpR (F p.1) (F p.2) &&ZpC F l
def Znu (F:Nat→AV):List (Nat×Nat)→Nat→AV
 | []=>F
 |p::l=>Zko (Znu F l) p.1 (F p.2)
def AV.boxes:AVs→List Nat
 | .nil=>[]
 | .cons v l=>v.box?.toList++AV.boxes l
def Zc8 (s:AS):List Nat→List Nat
 | []=>[]
 |n::l=>(match s.F n with
  | .ptr id []=>[id]
  | .vw id=>[id]
  | .nw id _ _ _=>[id]
  | .mp id=>[id]
  | .fn _ caps=>AV.boxes caps
  |_=>[])++Zc8 s l
def Zkq (H:AH) (id:Nat):Bool:=match H id with
 |some (.var _ (.d _ _))=>true
 |some (.vec _ _)=>true
 |some (.map _ _ _)=>true
 |some (.rows _ _ _ none)=>true
 |some (.mrows _ _ _ _ none)=>true
 |some (.rng _ _ _ _)=>true
 |some (.dat _ _)=>true
 |some (.bld _ _ _)=>true
 |_=>false
def Zm6 (H:AH):AVs→Bool
 | .nil=>true
 | .cons v l=>(match v with
  | .ptr id []=>Zkq H id
  | .dp _ _=>true
  | .d _ _=>true
  |_=>false) &&Zm6 H l
def Zet (s:AS):List Nat→Bool
 | []=>true
 |n::l=>(match s.F n with
  | .d _ _=>true
  | .dp _ _=>true
  | .nilr=>true
  | .nils=>true
  | .ptr id []=>Zkq s.H id
  | .vw id=>Zkq s.H id
  | .nw id _ _ _=>Zkq s.H id
  | .mp id=>Zkq s.H id
  | .fn _ caps=>Zm6 s.H caps
  |_=>false) &&Zet s l
def Zaz (b:AS) (e:Zhg):List Nat:=Zc8 b e.kept++b.fz
def ZbH (E:Env) (e:Zhg):Env:= {E with ks:=e.kept++(e.kv++E.ks) }
def Zqq (fz:List Nat) (e:Zhg) (s:AS):Option (ElR e.roots):=
 (Zth s.F e.roots).runK s.H [] fun r _=>bif r.2.ok fz&&ZdQ r.2.br fz&&ZqR s.F e.fns&&ZpC s.F e.als then some r.1 else none
def Zo3 (b:AS) (fz:List Nat) (e:Zhg) (x:ElR e.roots):AS:=
 let r:=Zew e.roots x b.nx
 ⟨Znu (Znv (fun k=>bif ZdP k e.kept then b.F k else ZkR r.1 k) e.fns) e.als,fun id=>bif ZdP id (Zaz b e) then b.H id else ZdH r.2.1 id,r.2.2,fz⟩
def ZoX (s:AS) (k:Nat×Nat×Nat):Option Nat:=match s.F k.1 with
 | .ptr id []=>(match s.H id with
  |some (.var T (.agg c))=>(match c.nth k.2.1 with
   |some (.vw a)=>bif Nat.beq (ZrL T k.2.1) k.2.2 then some a else none
   |_=>none)
  |_=>none)
 |_=>none
def ZuN (b s:AS):List (Nat×Nat×Nat)→Bool
 | []=>true
 |k::l=>(match ZoX b k,ZoX s k with
  |some x,some y=>Nat.beq x y
  |_,_=>false) &&ZuN b s l
def ZrA (b:AS) (fz:List Nat) (k:Nat×Nat×Nat) (s:AS):AS:=match ZoX b k,ZoX s k,s.F k.1 with
 |some a,some a2, .ptr id []=>(match s.H id,s.H a2,b.H a with
  |some (.var T (.agg c)),some (.vec t xs),some (.vec t0 _)=>bif t0==t&& !Nat.beq a2 id&& !Nat.beq a id&& !ZdP a fz&& !ZdP a2 fz&& !ZdP id fz then
    {s with H:=ZbU (ZbU (ZbU (ZbU s.H a2 none) id none) a (some (.vec t xs))) id (some (.var T (.agg (c.putNth k.2.1 (.vw a))))) } else s
  |_,_,_=>s)
 |_,_,_=>s
def ZsP (b:AS) (fz:List Nat):List (Nat×Nat×Nat)→AS→AS
 | [],s=>s
 |k::l,s=>ZsP b fz l (ZrA b fz k s)
def Ztk (b:AS):List Nat→(Nat→AV)→Nat→AV
 | [],F=>F
 |n::l,F=>Ztk b l (Zko F n (b.F n))
def Zg8 (b:AS) (fz:List Nat) (e:Zhg) (s:AS):Option (ElR e.roots):=bif ZuN b s e.kf then Zqq fz e s else none
def ZlS (b:AS) (fz:List Nat) (e:Zhg) (x:ElR e.roots):AS:=
 let s:=ZsP b (Zaz b e) e.kf (Zo3 b fz e x)
 ⟨Ztk b e.kv s.F,s.H,s.nx,fz⟩
abbrev Zhc:=List (Ex×Zhg)
@[reducible] def Zfl:Zhc→Type
 | []=>Empty
 | [e]=>ElR e.2.roots
 |e::f::l=>ElR e.2.roots ⊕ Zfl (f::l)
def ZeK (b:AS) (fz:List Nat): (J:Zhc)→Ex→AS→Option (Zfl J)
 | [],_,_=>none
 | [e],x,s=>bif x.beq e.1 then Zg8 b fz e.2 s else none
 |e::f::l,x,s=>bif x.beq e.1 then(Zg8 b fz e.2 s).bind fun y=>some (.inl y) else(ZeK b fz (f::l) x s).bind fun y=>some (.inr y)
def Zfr {ρ:Type} (b:AS): (J:Zhc)→Zfl J→(Ex→AS→Option ρ)→Option ρ
 | [],_,_=>none
 | [e],y,k=>k e.1 (ZlS b b.fz e.2 y)
 |e::f::l,y,k=>match y with
  | .inl y=>k e.1 (ZlS b b.fz e.2 y)
  | .inr y=>Zfr b (f::l) y k
def Zhg.slots (e:Zhg):List Nat:=e.roots.map Prod.fst++e.fns.map Prod.fst++e.kept
def ZcI (e:Zhg):Zhc→Bool
 | []=>true
 |f::l=>f.2.kept.all (fun n=>ZdP n e.kept) &&f.2.kv.all (fun n=>ZdP n e.kv) &&Zer f.2.slots&&ZcI e l
inductive ZaW where
 |leaf
 |seq (a b:ZaW)
 |cnd (J:Option (Zhg×Zhc)) (a b:ZaW)
 |lp (e:Zhg) (J:Zhc) (h:ZaW)
 |lpd (it:Nat) (e:Zhg) (J:Zhc) (h:ZaW)
 |reg (outs:List (Nat×Ty))
def ZaW.l:ZaW→ZaW
 | .seq a _=>a
 | .cnd _ a _=>a
 |_=> .leaf
def ZaW.r:ZaW→ZaW
 | .seq _ b=>b
 | .cnd _ _ b=>b
 |_=> .leaf
def ZaW.join:ZaW→Option (Zhg×Zhc)
 | .cnd J _ _=>J
 |_=>none
def ZaW.outs:ZaW→Option (List (Nat×Ty))
 | .reg l=>some l
 |_=>none
def Zf4 (it:Nat) (s:AS):Nat:=match s.F it with
 | .ptr id []=>(match s.H id with
  |some (.rng _ _ rest _)=>bif rest.isEmpty then 1 else rest.length
  |_=>1)
 |_=>1
def Zk7 (E:Env) (ops:Array Oper) (it i:Nat) (ρ:Type) (s:AS) (k:AS→Option ρ):Option ρ:=
 match ops.toList.zipIdx with
 | []=>none
 | (o,_)::l=>(match o.op,o.guard,o.dst with
  | .next (.tmp it') false,none,some d=>bif Nat.beq it' it&&ZfG E (some d) then(match s.F it with
   | .ptr id []=>(match s.H id with
    |some (.rng kt vt rest _)=>bif ZdP id s.fz then none else
      bif rest.isEmpty then Zfk E ops s.nx s.fz ρ l (Zgo s.F (some d) (.tup (.cons (.d .bool false) .nil))) s.H [] fun F H _=>k ⟨F,H,s.nx+ops.size*ZaG,s.fz⟩
      else(rest[i]?).bind fun e=>Zfk E ops s.nx s.fz ρ l (Zgo s.F (some d) (.tup (.cons (.d .bool true) (.cons (.d kt e.1) (.cons (.d vt e.2) .nil)))))
       (ZbU s.H id (some (.rng kt vt (rest.eraseIdx i) (some e)))) [] fun F H _=>k ⟨F,H,s.nx+ops.size*ZaG,s.fz⟩
    |_=>none)
   |_=>none) else none
  |_,_,_=>none)
noncomputable def ZbQ:Code→ZaW→Env→(ρ:Type)→AS→(Ex→AS→Option ρ)→Option ρ
 | .skip,_,_,_,s,k=>k .normal s
 | .label _,_,_,_,s,k=>k .normal s
 | .scope c,h,E,ρ,s,k=>ZbQ c h E ρ s k
 | .region _ ops draw,h,E,ρ,s,k=>Zmz E ops draw h.outs ρ s (k .normal)
 | .seq a b,h,E,ρ,s,k=>ZbQ a h.l E ρ s fun e s' =>match e with
  | .normal=>ZbQ b h.r E ρ s' k
  |e=>k e s'
 | .cond c a b,h,E,ρ,s,k=>match aev s.F c with
  | .d .bool t=>(match h.join with
   |none=>bif t then ZbQ a h.l E ρ s k else ZbQ b h.r E ρ s k
   |some (e,J)=>bif Zet s e.kept&&ZcI e J then
     (let s1:AS:= {s with fz:=Zaz s e}
      bif t then ZbQ a h.l (ZbH E e) (Zfl J) s1 (ZeK s (Zaz s e) J) else ZbQ b h.r (ZbH E e) (Zfl J) s1 (ZeK s (Zaz s e) J)).bind fun o=>Zfr s J o k
    else none)
  |_=>none
 | .block id c,h,E,ρ,s,k=>ZbQ c h E ρ s fun e s' =>match e with
  | .exit i=>bif Nat.beq i id then k .normal s' else k (.exit i) s'
  |e=>k e s'
 | .loop c,h,E,_,s,k=>match h with
  | .lp en J hb=>bif Zet s en.kept&&ZcI en J&&Zer en.slots then
    (Zg8 s (Zaz s en) en s).bind fun x=>(run (fun y=>ZbQ c hb (ZbH E en) (ElR en.roots ⊕ Zfl J) (ZlS s (Zaz s en) en y) fun e s' =>match e with
     | .normal=>(Zg8 s (Zaz s en) en s').bind fun z=>some (.inl z)
     |e=>(ZeK s (Zaz s en) J e s').bind fun z=>some (.inr z)) x).bind fun o=>Zfr s J o k
   else none
  | .lpd it en J hb=>(match c with
   | .seq (.region _ ops false) c2=>bif Zet s en.kept&&ZcI en J&&Zer en.slots then
     (Zg8 s (Zaz s en) en s).bind fun x=>drun (fun y=>Zf4 it (ZlS s (Zaz s en) en y)) (fun y i=>Zk7 (ZbH E en) ops it i (ElR en.roots ⊕ Zfl J) (ZlS s (Zaz s en) en y) fun s1=>ZbQ c2 hb (ZbH E en) (ElR en.roots ⊕ Zfl J) s1 fun e s' =>match e with
      | .normal=>(Zg8 s (Zaz s en) en s').bind fun z=>some (.inl z)
      |e=>(ZeK s (Zaz s en) J e s').bind fun z=>some (.inr z)) (fun o=>Zfr s J o k) x
    else none
   |_=>none)
  |_=>none
 | .exit id,_,_,_,s,k=>k (.exit id) s
 | .ret,_,_,_,s,k=>k .ret s
 |_,_,_,_,_,_=>none
def AVs.toF:AVs→Nat→AV
 | .nil,_=>Zgw
 | .cons v _,0=>v
 | .cons _ l,n+1=>l.toF n
mutual
def Pat.back:Pat→Bool
 | .own _ k=>k
 | .var _ _=>true
 | .map _ _=>true
 | .rows _ k=>k
 | .mrows _ _=>true
 | .bld _ _ k=>k
 | .agg l=>l.back
 | .fn _ l=>l.back
 |_=>false
def Zam.back:Zam→Bool
 | .nil=>false
 | .cons p l=>p.back||l.back
end
mutual
def Zta: (p:Pat)→ElP p
 | .pd t=>Zbv t
 | .own _ _=>[]
 | .var _ p=>Zta p
 | .ro t=>Zbv t
 | .map _ _=>[]
 | .rows _ _=>[]
 | .mrows _ _=>[]
 | .it _ _=>[]
 | .bld _ _ _=>[]
 | .agg l=>ZqQ l
 | .fn _ l=>ZqQ l
 | .nilr=>()
 | .nils=>()
 | .any=>()
def ZqQ: (l:Zam)→ZdT l
 | .nil=>()
 | .cons p l=>(Zta p,ZqQ l)
end
mutual
def Zs1: (p:Pat)→Zo7 p
 | .own _ true=>[]
 | .own _ false=>()
 | .var _ p=>Zta p
 | .map _ _=>[]
 | .rows _ true=>[]
 | .rows _ false=>()
 | .mrows _ _=>[]
 | .it _ _=>()
 | .bld _ _ true=>[]
 | .bld _ _ false=>()
 | .agg l=>Zmp l
 | .fn _ l=>Zmp l
 | .pd _=>()
 | .ro _=>()
 | .nilr=>()
 | .nils=>()
 | .any=>()
def Zmp: (l:Zam)→Zcz l
 | .nil=>()
 | .cons p l=>(Zs1 p,Zmp l)
end
def ZpV:Pat→AV→Bool
 | .pd t,v=>v.fits t
 | .own t _,v=>v.fits (.sl t)
 | .rows t _,v=>v.fits (.sl (.sl t))
 | .agg _,_=>true
 | .fn _ _,_=>true
 | .any,_=>false
 | .nils,v=>v.fits (.sl .unit)
 |_,v=>v.fits .ref
mutual
def Zcu: (p:Pat)→AV→Acc (Zo7 p×Ids)
 | .own t true, .vw id=> .getH id fun
  |some (.vec t' xs)=> .opt (ZaS (.sl t') (.sl t) xs) fun y=> .ret (y,⟨[id],[]⟩)
  |_=> .fail
 | .own _ false,_=> .ret ((),Ids.none)
 | .var t p, .ptr id []=> .getH id fun
  |some (.var t' c)=>bif t' ==t&&p.fits t then(ext p c).bind fun r=> .ret (r.1,⟨id::r.2.tk,r.2.br⟩) else .fail
  |_=> .fail
 | .map kt vt, .mp id=> .getH id fun
  |some (.map k e m)=> .opt (ZaS (.sl (.prod k e)) (.sl (.prod kt vt)) m) fun y=> .ret (y,⟨[id],[]⟩)
  |_=> .fail
 | .rows t true, .vw id=> .getH id fun
  |some (.rows t' xs _ none)=> .opt (ZaS (.sl (.sl t')) (.sl (.sl t)) xs) fun y=> .ret (y,⟨[id],[]⟩)
  |_=> .fail
 | .rows _ false,_=> .ret ((),Ids.none)
 | .mrows kt t, .mp id=> .getH id fun
  |some (.mrows k t' m _ none)=> .opt (ZaS (.sl (.prod k (.sl t'))) (.sl (.prod kt (.sl t))) m) fun y=> .ret (y,⟨[id],[]⟩)
  |_=> .fail
 | .it _ _,_=> .ret ((),Ids.none)
 | .bld T e true, .ptr id []=> .getH id fun
  |some (.bld T' e' bs)=>bif Nat.beq T' T&&Nat.beq e' e then .ret (bs,⟨[id],[]⟩) else .fail
  |_=> .fail
 | .bld _ _ false,_=> .ret ((),Ids.none)
 | .agg l, .agg vs=>Zho l vs
 | .fn f l, .fn f' vs=>bif Nat.beq f' f then Zho l vs else .fail
 | .pd _,_=> .ret ((),Ids.none)
 | .ro _,_=> .ret ((),Ids.none)
 | .nilr,_=> .ret ((),Ids.none)
 | .nils,_=> .ret ((),Ids.none)
 | .any,_=> .ret ((),Ids.none)
 |_,_=> .fail
def Zho: (l:Zam)→AVs→Acc (Zcz l×Ids)
 | .nil, .nil=> .ret ((),Ids.none)
 | .cons p l, .cons v vs=>bif ZpV p v then(Zcu p v).bind fun x=>(Zho l vs).bind fun y=> .ret ((x.1,y.1),x.2.app y.2) else .fail
 |_,_=> .fail
end
def Zjp: (l:Zam)→AVs→Acc (Zcz l×Ids)
 | .nil,_=> .ret ((),Ids.none)
 | .cons p l, .cons v vs=>bif p.back then(Zcu p v).bind fun x=>(Zjp l vs).bind fun y=> .ret ((x.1,y.1),x.2.app y.2)
   else(Zjp l vs).bind fun y=> .ret ((Zs1 p,y.1),y.2)
 |_,_=> .fail
def Zmy (E:Env) (s:AS):List ResultVar→Acc AVs
 | []=> .ret .nil
 | .tmp t::l=>(Zmy E s l).bind fun vs=> .ret (.cons (s.F t) vs)
 | .cell a T::l=> .opt (E.ty T) fun t=>(match s.F a with
  | .ptr id p=> .getH id fun
   |some (.var _ c)=>(Zhy c p).bind fun v=>bif v.fits t&&v.solid then(Zmy E s l).bind fun vs=> .ret (.cons v vs) else .fail
   |_=> .fail
  |_=> .fail)
def Zbw:Zam→Nat→List Nat
 | .nil,_=>[]
 | .cons p l,n=>(bif p.back then [n] else [])++Zbw l (n+1)
def Zam.len:Zam→Nat
 | .nil=>0
 | .cons _ l=>l.len+1
def ZhB (F:Nat→AV):Zam→Nat→AVs
 | .nil,_=> .nil
 | .cons _ l,n=> .cons (F n) (ZhB F l (n+1))
def Zrb (E:Env) (results:Array ResultVar) (args res:Zam) (fz:List Nat) (e:Ex) (s:AS):Option (Zcz args×ZdT res):=
 match e with
 | .exit _=>none
 |_=>((Zmy E s results.toList).bind fun vs=>(Zfm res vs).bind fun r=>(Zjp args (ZhB s.F args 0)).bind fun o=> .ret ((o.1,r.1),o.2.app r.2)).runK s.H [] fun r _=>
   bif r.2.ok fz&&ZdQ r.2.br fz then some r.1 else none
def Zpz (ks:List Nat) (av:AVs) (H0:AH) (s:AS):List (Nat×Nat×Nat)→Bool
 | []=>true
 |k::l=>(match av.nth k.1,s.F k.1 with
  |some (.ptr id []), .ptr id' []=>(match H0 id,s.H id' with
   |some (.var T (.agg c)),some (.var T' (.agg c'))=>(match c.nth k.2.1,c'.nth k.2.1 with
    |some (.vw a),some (.vw b)=>Nat.beq a b&&T' ==T&&Nat.beq (ZrL T k.2.1) k.2.2&&ZdP k.1 ks
    |_,_=>false)
   |_,_=>false)
  |_,_=>false) &&Zpz ks av H0 s l
noncomputable def Zau (E:Env) (body:Code) (results:Array ResultVar) (h:ZaW) (args res:Zam) {α:Type} (pack:Zcz args×ZdT res→α) (x:ZdT args) (kp:List (Nat×Nat×Nat):=[]):Option α:=
 let r:=Zdh args x 0
 ZbQ body h {E with ks:=Zbw args 0} α ⟨r.1.toF,ZdH r.2.1,r.2.2,[]⟩ fun e s=>
  (Zrb E results args res [] e s).bind fun y=>bif Zpz (Zbw args 0) r.1 (ZdH r.2.1) s kp then some (pack y) else none
def mkE (tys:List (Nat×Ty)) (ms:List (Nat×Ty×Ty)) (pks:List (Nat×Nat)) (rws zxs:List Nat) (m:List (Nat×List Spec)) (nt:Nat) (bds:List (Nat×Nat):=[]):Env:=
 {ty:=fun n=>tys.lookup n,mty:=fun n=>ms.lookup n,pk:=fun n=>(pks.lookup n).getD 0,rw:=fun n=>rws.contains n,zx:=fun n=>zxs.contains n,bd:=fun n=>bds.lookup n,specs:=fun n=>(m.lookup n).getD [],nt:=nt,ks:=[] }
def Zai (f:Func):Code:=match f.body with
 |some b=>b
 |none=> .skip
end Tr
