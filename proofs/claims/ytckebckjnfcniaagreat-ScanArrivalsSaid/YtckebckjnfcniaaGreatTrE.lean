/- The definitions of the abstract machine, the last part: states, regions, code, loops, functions. Conditions: none. -/
import Derived.Test.YtckebckjnfcniaaGreatTrD
namespace Tr
open Go
structure AS where
 F:Nat→AV
 H:AH
 nx:Nat
 fz:List Nat
def Zi3 (F:Nat→AV) (n:Nat) (v:AV):Nat→AV:=fun k=>bif Nat.beq k n then v else F k
def ZfB (F:Nat→AV) (d:Option Nat) (v:AV):Nat→AV:=match d with
 |some n=>Zi3 F n v
 |none=>F
def ZfM:AV:= .tup .nil
def Zae (H:AH):Zbe→AH
 | []=>H
 |p::l=>Zae (ZbI H p.1 p.2) l
inductive Ex where
 |normal
 |exit (id:Nat)
 |ret
def Ex.beq:Ex→Ex→Bool
 | .normal, .normal=>true
 | .exit a, .exit b=>Nat.beq a b
 | .ret, .ret=>true
 |_,_=>false
def ZhB {σ τ:Type} (step:σ→Option (σ ⊕ τ)):Nat→σ→Option τ
 |0,_=>none
 |n+1,s=>match step s with
  |some (.inl s')=>ZhB step n s'
  |some (.inr r)=>some r
  |none=>none
open Classical in
noncomputable def run {σ τ:Type} (step:σ→Option (σ ⊕ τ)) (s:σ):Option τ:=
 match ZhB step 100000 s with
 |some r=>some r
 |none=>if h: ∃r n,ZhB step n s=some r then some h.choose else none
def Zmz {σ τ ρ:Type} (cnt:σ→Nat) (step:σ→Nat→Option (σ ⊕ τ)) (k:τ→Option ρ) (z:ρ):Nat→σ→Prop
 |0,_=>False
 |n+1,s=> ∀i,i<cnt s→(∃s',step s i=some (.inl s')∧Zmz cnt step k z n s')∨ ∃t,step s i=some (.inr t)∧k t=some z
def Zss {σ τ ρ:Type} (cnt:σ→Nat) (step:σ→Nat→Option (σ ⊕ τ)) (k:τ→Option ρ):Nat→σ→Option ρ
 |0,_=>none
 |n+1,s=>bif Nat.ble (cnt s) 1 then(match step s 0 with
  |some (.inl s')=>Zss cnt step k n s'
  |some (.inr t)=>k t
  |none=>none) else none
open Classical in
noncomputable def drun {σ τ ρ:Type} (cnt:σ→Nat) (step:σ→Nat→Option (σ ⊕ τ)) (k:τ→Option ρ) (s:σ):Option ρ:=
 match Zss cnt step k 1000 s with
 |some r=>some r
 |none=>if h: ∃z n,Zmz cnt step k z n s then some h.choose else none
structure Trc where
 i:Nat
 rd:List Nat
 wr:List Nat
def ZeU (E:Env):Option Nat→Bool
 |some d=>Nat.blt d E.nt&& !Zdn d E.ks
 |none=>true
def ZeH (E:Env) (ops:Array Oper) (base:Nat) (fz:List Nat) (ρ:Type):List (Oper×Nat)→(Nat→AV)→AH→List Trc→((Nat→AV)→AH→List Trc→Option ρ)→Option ρ
 | [],F,H,tr,k=>k F H tr
 | (o,i)::rest,F,H,tr,k=>
  let go:=fun(F:Nat→AV)=>bif ZeU E o.dst then
   (aop E (base+i*ZaD) o.op o.type (aev F)).runK H [] fun r rd=>
    bif Zdy (r.2.map Prod.fst) fz then
     ZeH E ops base fz ρ rest (ZfB F o.dst r.1) (Zae H r.2) (⟨i,rd,r.2.map Prod.fst⟩::tr) k else none else none
  let skip:=fun(F:Nat→AV)=>bif ZeU E o.dst then ZeH E ops base fz ρ rest (ZfB F o.dst ZfM) H tr k else none
  match o.guard with
  |none=>go F
  |some (j,want)=>match (ops[j]?).bind (·.dst) with
   |none=>none
   |some g=>match F g with
    | .d .bool b=>bif b then(bif want then go (Zi3 F g (.d .bool true)) else skip (Zi3 F g (.d .bool true)))
      else(bif want then skip (Zi3 F g (.d .bool false)) else go (Zi3 F g (.d .bool false)))
    | .tup .nil=>skip F
    |_=>none
def Zgw:List Operand→List Nat
 | []=>[]
 | .tmp t::l=>t::Zgw l
 |_::l=>Zgw l
def Zd5 (ops:Array Oper) (o:Oper):List Nat:=
 (match o.guard with
  |some (j,_)=>((ops[j]?).bind (·.dst)).toList
  |none=>[])++Zgw o.op.operands.toList
def Zex (ops:Array Oper) (a b:Oper):Bool:=
 (match a.dst with
  |some d=> !Zdn d (Zd5 ops b) && (match b.dst with|some e=> !Nat.beq d e|none=>true)
  |none=>true) &&
 (match b.dst with
  |some d=> !Zdn d (Zd5 ops a)
  |none=>true)
def ZdI (i:Nat):List Trc→Option Trc
 | []=>none
 |t::l=>bif Nat.beq t.i i then some t else ZdI i l
def ZlJ (tr:List Trc) (i j:Nat):Bool:=
 match ZdI i tr,ZdI j tr with
 |some a,some b=>Zdy a.wr b.rd&&Zdy a.wr b.wr&&Zdy b.wr a.rd
 |_,_=>true
def Zqf (ops:Array Oper):List (Nat×Nat):=
 let b:=Region.before ops
 (List.range ops.size).flatMap fun j=>(List.range j).filterMap fun i=>if (b.getD j 0).testBit i then none else some (i,j)
def ZrV (ops:Array Oper):Bool:=(Zqf ops).all fun p=>match ops[p.1]?,ops[p.2]? with
 |some a,some b=>Zex ops a b
 |_,_=>true
def Zk3 (ops:Array Oper):Bool:=ops.toList.zipIdx.all fun p=>p.1.after.all fun e=> !Region.binds .any e||Nat.blt e.on p.2
def ZhG (ops:Array Oper) (tr:List Trc):Bool:=
 Zk3 ops&&ZrV ops&& (tr.all (fun t=>t.wr.isEmpty) || (Zqf ops).all fun p=>ZlJ tr p.1 p.2)
@[reducible] def ElT:List (Nat×Ty)→Type
 | []=>Unit
 | [(_,t)]=>El t
 | (_,t)::p::l=>El t×ElT (p::l)
def Zr5 (F:Nat→AV): (l:List (Nat×Ty))→Option (ElT l)
 | []=>some ()
 | [(n,t)]=>(match F n with
  | .d t' x=>ZaP t' t x
  |_=>none)
 | (n,t)::p::l=>(match F n with
  | .d t' x=>(ZaP t' t x).bind fun y=>(Zr5 F (p::l)).bind fun z=>some (y,z)
  |_=>none)
def inT (F:Nat→AV): (l:List (Nat×Ty))→ElT l→Nat→AV
 | [],_=>F
 | [(n,t)],x=>Zi3 F n (.d t x)
 | (n,t)::p::l,x=>inT (Zi3 F n (.d t x.1)) (p::l) x.2
def Zry (l:List Nat) (F:Nat→AV):Nat→AV:=fun k=>bif Zdn k l then .junk else F k
def Zlr (ops:List Oper):List Nat:=ops.filterMap (·.dst)
def Zkn (E:Env) (ops:Array Oper) (draw:Bool) (outs:Option (List (Nat×Ty))) (ρ:Type) (s:AS) (k:AS→Option ρ):Option ρ:=
 let nx:=s.nx+ops.size*ZaD
 match outs with
 |none=>ZeH E ops s.nx s.fz ρ ops.toList.zipIdx s.F s.H [] fun F H tr=>bif !draw||ZhG ops tr then k ⟨F,H,nx,s.fz⟩ else none
 |some l=>(ZeH E ops s.nx s.fz (ElT l) ops.toList.zipIdx s.F s.H [] fun F _ tr=>bif (!draw||ZhG ops tr) &&tr.all (fun t=>t.wr.isEmpty) then Zr5 F l else none).bind
   fun x=>k ⟨inT (Zry (Zlr ops.toList) s.F) l x,s.H,nx,s.fz⟩
structure Zgs where
 roots:List (Nat×Pat)
 fns:List (Nat×FuncId×List Nat):=[]
 kept:List Nat:=[]
 als:List (Nat×Nat):=[]
 kf:List (Nat×Nat×Nat):=[]
 kv:List Nat:=[]
@[reducible] def ElR:List (Nat×Pat)→Type
 | []=>Unit
 | [(_,p)]=>ElP p
 | (_,p)::q::l=>ElP p×ElR (q::l)
def Zq3 (F:Nat→AV): (l:List (Nat×Pat))→Acc (ElR l×Ids)
 | []=> .ret ((),Ids.none)
 | [(n,p)]=>ext p (F n)
 | (n,p)::q::l=>(ext p (F n)).bind fun x=>(Zq3 F (q::l)).bind fun y=> .ret ((x.1,y.1),x.2.app y.2)
def Zed: (l:List (Nat×Pat))→ElR l→Nat→List (Nat×AV) ×List (Nat×ZdE) ×Nat
 | [],_,n=>([],[],n)
 | [(m,p)],x,n=>let r:=inj p x n;([(m,r.1)],r.2.1,r.2.2)
 | (m,p)::q::l,x,n=>let r:=inj p x.1 n;let s:=Zed (q::l) x.2 r.2.2;((m,r.1)::s.1,r.2.1++s.2.1,s.2.2)
def ZjQ:List (Nat×AV)→Nat→AV
 | [],_=> .junk
 |p::l,k=>bif Nat.beq k p.1 then p.2 else ZjQ l k
def Zdj:List (Nat×ZdE)→AH
 | [],_=>none
 |p::l,k=>bif Nat.beq k p.1 then some p.2 else Zdj l k
def AV.box? :AV→Option Nat
 | .ptr id []=>some id
 |_=>none
def ZdK (F:Nat→AV):AVs→List Nat→Bool
 | .nil,[]=>true
 | .cons v l,n::m=>(match v.box?,(F n).box? with
  |some a,some b=>Nat.beq a b
  |_,_=>false) &&ZdK F l m
 |_,_=>false
def ZnS (F:Nat→AV):List (Nat×FuncId×List Nat)→Bool
 | []=>true
 | (n,f,l)::m=>(match F n with
  | .fn f' caps=>Nat.beq f' f&&ZdK F caps l
  |_=>false) &&ZnS F m
def ZlQ (F:Nat→AV):List (Nat×FuncId×List Nat)→Nat→AV
 | []=>F
 | (n,f,l)::m=>Zi3 (ZlQ F m) n (.fn f (AVs.ofList (l.map F)))
def Zos (x y:AV):Bool:=match x,y with
 | .vw a, .vw b=>Nat.beq a b
 | .mp a, .mp b=>Nat.beq a b
 | .ptr a [], .ptr b []=>Nat.beq a b
 | .nils, .nils=>true
 |_,_=>false
def ZoE (F:Nat→AV):List (Nat×Nat)→Bool
 | []=>true
 |p::l=>Zos (F p.1) (F p.2) &&ZoE F l
def ZlK (F:Nat→AV):List (Nat×Nat)→Nat→AV
 | []=>F
 |p::l=>Zi3 (ZlK F l) p.1 (F p.2)
def AV.boxes:AVs→List Nat
 | .nil=>[]
 | .cons v l=>v.box?.toList++AV.boxes l
def ZcG (s:AS):List Nat→List Nat
 | []=>[]
 |n::l=>(match s.F n with
  | .ptr id []=>[id]
  | .vw id=>[id]
  | .nw id _ _ _=>[id]
  | .mp id=>[id]
  | .fn _ caps=>AV.boxes caps
  |_=>[])++ZcG s l
def ZiZ (H:AH) (id:Nat):Bool:=match H id with
 |some (.var _ (.d _ _))=>true
 |some (.vec _ _)=>true
 |some (.map _ _ _)=>true
 |some (.rows _ _ _ none)=>true
 |some (.mrows _ _ _ _ none)=>true
 |some (.rng _ _ _ _)=>true
 |some (.dat _ _)=>true
 |some (.bld _ _ _)=>true
 |_=>false
def ZlM (H:AH):AVs→Bool
 | .nil=>true
 | .cons v l=>(match v with
  | .ptr id []=>ZiZ H id
  | .dp _ _=>true
  | .d _ _=>true
  |_=>false) &&ZlM H l
def ZdW (s:AS):List Nat→Bool
 | []=>true
 |n::l=>(match s.F n with
  | .d _ _=>true
  | .dp _ _=>true
  | .nilr=>true
  | .nils=>true
  | .ptr id []=>ZiZ s.H id
  | .vw id=>ZiZ s.H id
  | .nw id _ _ _=>ZiZ s.H id
  | .mp id=>ZiZ s.H id
  | .fn _ caps=>ZlM s.H caps
  |_=>false) &&ZdW s l
def Zax (b:AS) (e:Zgs):List Nat:=ZcG b e.kept++b.fz
def Zbv (E:Env) (e:Zgs):Env:= {E with ks:=e.kept++(e.kv++E.ks) }
def Zpm (fz:List Nat) (e:Zgs) (s:AS):Option (ElR e.roots):=
 (Zq3 s.F e.roots).runK s.H [] fun r _=>bif r.2.ok fz&&Zdy r.2.br fz&&ZnS s.F e.fns&&ZoE s.F e.als then some r.1 else none
def Zna (b:AS) (fz:List Nat) (e:Zgs) (x:ElR e.roots):AS:=
 let r:=Zed e.roots x b.nx
 ⟨ZlK (ZlQ (fun k=>bif Zdn k e.kept then b.F k else ZjQ r.1 k) e.fns) e.als,fun id=>bif Zdn id (Zax b e) then b.H id else Zdj r.2.1 id,r.2.2,fz⟩
def ZmI (s:AS) (k:Nat×Nat×Nat):Option Nat:=match s.F k.1 with
 | .ptr id []=>(match s.H id with
  |some (.var T (.agg c))=>(match c.nth k.2.1 with
   |some (.vw a)=>bif Nat.beq (ZpI T k.2.1) k.2.2 then some a else none
   |_=>none)
  |_=>none)
 |_=>none
def Zsi (b s:AS):List (Nat×Nat×Nat)→Bool
 | []=>true
 |k::l=>(match ZmI b k,ZmI s k with
  |some x,some y=>Nat.beq x y
  |_,_=>false) &&Zsi b s l
def ZqD (b:AS) (fz:List Nat) (k:Nat×Nat×Nat) (s:AS):AS:=match ZmI b k,ZmI s k,s.F k.1 with
 |some a,some a2, .ptr id []=>(match s.H id,s.H a2,b.H a with
  |some (.var T (.agg c)),some (.vec t xs),some (.vec t0 _)=>bif t0==t&& !Nat.beq a2 id&& !Nat.beq a id&& !Zdn a fz&& !Zdn a2 fz&& !Zdn id fz then
    {s with H:=ZbI (ZbI (ZbI (ZbI s.H a2 none) id none) a (some (.vec t xs))) id (some (.var T (.agg (c.putNth k.2.1 (.vw a))))) } else s
  |_,_,_=>s)
 |_,_,_=>s
def ZqQ (b:AS) (fz:List Nat):List (Nat×Nat×Nat)→AS→AS
 | [],s=>s
 |k::l,s=>ZqQ b fz l (ZqD b fz k s)
def Zq6 (b:AS):List Nat→(Nat→AV)→Nat→AV
 | [],F=>F
 |n::l,F=>Zq6 b l (Zi3 F n (b.F n))
def Zgb (b:AS) (fz:List Nat) (e:Zgs) (s:AS):Option (ElR e.roots):=bif Zsi b s e.kf then Zpm fz e s else none
def Zki (b:AS) (fz:List Nat) (e:Zgs) (x:ElR e.roots):AS:=
 let s:=ZqQ b (Zax b e) e.kf (Zna b fz e x)
 ⟨Zq6 b e.kv s.F,s.H,s.nx,fz⟩
abbrev Zgi:=List (Ex×Zgs)
@[reducible] def ZeI:Zgi→Type
 | []=>Empty
 | [e]=>ElR e.2.roots
 |e::f::l=>ElR e.2.roots ⊕ ZeI (f::l)
def Zd9 (b:AS) (fz:List Nat): (J:Zgi)→Ex→AS→Option (ZeI J)
 | [],_,_=>none
 | [e],x,s=>bif x.beq e.1 then Zgb b fz e.2 s else none
 |e::f::l,x,s=>bif x.beq e.1 then(Zgb b fz e.2 s).bind fun y=>some (.inl y) else(Zd9 b fz (f::l) x s).bind fun y=>some (.inr y)
def ZeJ {ρ:Type} (b:AS): (J:Zgi)→ZeI J→(Ex→AS→Option ρ)→Option ρ
 | [],_,_=>none
 | [e],y,k=>k e.1 (Zki b b.fz e.2 y)
 |e::f::l,y,k=>match y with
  | .inl y=>k e.1 (Zki b b.fz e.2 y)
  | .inr y=>ZeJ b (f::l) y k
def Zgs.slots (e:Zgs):List Nat:=e.roots.map Prod.fst++e.fns.map Prod.fst++e.kept
def Zct (e:Zgs):Zgi→Bool
 | []=>true
 |f::l=>f.2.kept.all (fun n=>Zdn n e.kept) &&f.2.kv.all (fun n=>Zdn n e.kv) &&ZdZ f.2.slots&&Zct e l
inductive ZaW where
 |leaf
 |seq (a b:ZaW)
 |cnd (J:Option (Zgs×Zgi)) (a b:ZaW)
 |lp (e:Zgs) (J:Zgi) (h:ZaW)
 |lpd (it:Nat) (e:Zgs) (J:Zgi) (h:ZaW)
 |reg (outs:List (Nat×Ty))
def ZaW.l:ZaW→ZaW
 | .seq a _=>a
 | .cnd _ a _=>a
 |_=> .leaf
def ZaW.r:ZaW→ZaW
 | .seq _ b=>b
 | .cnd _ _ b=>b
 |_=> .leaf
def ZaW.join:ZaW→Option (Zgs×Zgi)
 | .cnd J _ _=>J
 |_=>none
def ZaW.outs:ZaW→Option (List (Nat×Ty))
 | .reg l=>some l
 |_=>none
def Zff (it:Nat) (s:AS):Nat:=match s.F it with
 | .ptr id []=>(match s.H id with
  |some (.rng _ _ rest _)=>bif rest.isEmpty then 1 else rest.length
  |_=>1)
 |_=>1
def ZjI (E:Env) (ops:Array Oper) (it i:Nat) (ρ:Type) (s:AS) (k:AS→Option ρ):Option ρ:=
 match ops.toList.zipIdx with
 | []=>none
 | (o,_)::l=>(match o.op,o.guard,o.dst with
  | .next (.tmp it') false,none,some d=>bif Nat.beq it' it&&ZeU E (some d) then(match s.F it with
   | .ptr id []=>(match s.H id with
    |some (.rng kt vt rest _)=>bif Zdn id s.fz then none else
      bif rest.isEmpty then ZeH E ops s.nx s.fz ρ l (ZfB s.F (some d) (.tup (.cons (.d .bool false) .nil))) s.H [] fun F H _=>k ⟨F,H,s.nx+ops.size*ZaD,s.fz⟩
      else(rest[i]?).bind fun e=>ZeH E ops s.nx s.fz ρ l (ZfB s.F (some d) (.tup (.cons (.d .bool true) (.cons (.d kt e.1) (.cons (.d vt e.2) .nil)))))
       (ZbI s.H id (some (.rng kt vt (rest.eraseIdx i) (some e)))) [] fun F H _=>k ⟨F,H,s.nx+ops.size*ZaD,s.fz⟩
    |_=>none)
   |_=>none) else none
  |_,_,_=>none)
noncomputable def ZbF:Code→ZaW→Env→(ρ:Type)→AS→(Ex→AS→Option ρ)→Option ρ
 | .skip,_,_,_,s,k=>k .normal s
 | .label _,_,_,_,s,k=>k .normal s
 | .scope c,h,E,ρ,s,k=>ZbF c h E ρ s k
 | .region _ ops draw,h,E,ρ,s,k=>Zkn E ops draw h.outs ρ s (k .normal)
 | .seq a b,h,E,ρ,s,k=>ZbF a h.l E ρ s fun e s' =>match e with
  | .normal=>ZbF b h.r E ρ s' k
  |e=>k e s'
 | .cond c a b,h,E,ρ,s,k=>match aev s.F c with
  | .d .bool t=>(match h.join with
   |none=>bif t then ZbF a h.l E ρ s k else ZbF b h.r E ρ s k
   |some (e,J)=>bif ZdW s e.kept&&Zct e J then
     (let s1:AS:= {s with fz:=Zax s e}
      bif t then ZbF a h.l (Zbv E e) (ZeI J) s1 (Zd9 s (Zax s e) J) else ZbF b h.r (Zbv E e) (ZeI J) s1 (Zd9 s (Zax s e) J)).bind fun o=>ZeJ s J o k
    else none)
  |_=>none
 | .block id c,h,E,ρ,s,k=>ZbF c h E ρ s fun e s' =>match e with
  | .exit i=>bif Nat.beq i id then k .normal s' else k (.exit i) s'
  |e=>k e s'
 | .loop c,h,E,_,s,k=>match h with
  | .lp en J hb=>bif ZdW s en.kept&&Zct en J&&ZdZ en.slots then
    (Zgb s (Zax s en) en s).bind fun x=>(run (fun y=>ZbF c hb (Zbv E en) (ElR en.roots ⊕ ZeI J) (Zki s (Zax s en) en y) fun e s' =>match e with
     | .normal=>(Zgb s (Zax s en) en s').bind fun z=>some (.inl z)
     |e=>(Zd9 s (Zax s en) J e s').bind fun z=>some (.inr z)) x).bind fun o=>ZeJ s J o k
   else none
  | .lpd it en J hb=>(match c with
   | .seq (.region _ ops false) c2=>bif ZdW s en.kept&&Zct en J&&ZdZ en.slots then
     (Zgb s (Zax s en) en s).bind fun x=>drun (fun y=>Zff it (Zki s (Zax s en) en y)) (fun y i=>ZjI (Zbv E en) ops it i (ElR en.roots ⊕ ZeI J) (Zki s (Zax s en) en y) fun s1=>ZbF c2 hb (Zbv E en) (ElR en.roots ⊕ ZeI J) s1 fun e s' =>match e with
      | .normal=>(Zgb s (Zax s en) en s').bind fun z=>some (.inl z)
      |e=>(Zd9 s (Zax s en) J e s').bind fun z=>some (.inr z)) (fun o=>ZeJ s J o k) x
    else none
   |_=>none)
  |_=>none
 | .exit id,_,_,_,s,k=>k (.exit id) s
 | .ret,_,_,_,s,k=>k .ret s
 |_,_,_,_,_,_=>none
def AVs.toF:AVs→Nat→AV
 | .nil,_=>ZfM
 | .cons v _,0=>v
 | .cons _ l,n+1=>l.toF n
mutual
def Pat.back:Pat→Bool
 | .own _ k=>k
 | .var _ _=>true
 | .map _ _=>true
 | .rows _ k=>k
 | .mrows _ _=>true
 | .bld _ _ k=>k
 | .agg l=>l.back
 | .fn _ l=>l.back
 |_=>false
def Zao.back:Zao→Bool
 | .nil=>false
 | .cons p l=>p.back||l.back
end
mutual
def Zrd: (p:Pat)→ElP p
 | .pd t=>Zbi t
 | .own _ _=>[]
 | .var _ p=>Zrd p
 | .ro t=>Zbi t
 | .map _ _=>[]
 | .rows _ _=>[]
 | .mrows _ _=>[]
 | .it _ _=>[]
 | .bld _ _ _=>[]
 | .agg l=>ZnF l
 | .fn _ l=>ZnF l
 | .nilr=>()
 | .nils=>()
 | .any=>()
def ZnF: (l:Zao)→Zdx l
 | .nil=>()
 | .cons p l=>(Zrd p,ZnF l)
end
mutual
def ZqW: (p:Pat)→Zng p
 | .own _ true=>[]
 | .own _ false=>()
 | .var _ p=>Zrd p
 | .map _ _=>[]
 | .rows _ true=>[]
 | .rows _ false=>()
 | .mrows _ _=>[]
 | .it _ _=>()
 | .bld _ _ true=>[]
 | .bld _ _ false=>()
 | .agg l=>ZkC l
 | .fn _ l=>ZkC l
 | .pd _=>()
 | .ro _=>()
 | .nilr=>()
 | .nils=>()
 | .any=>()
def ZkC: (l:Zao)→Zcf l
 | .nil=>()
 | .cons p l=>(ZqW p,ZkC l)
end
def ZnX:Pat→AV→Bool
 | .pd t,v=>v.fits t
 | .own t _,v=>v.fits (.sl t)
 | .rows t _,v=>v.fits (.sl (.sl t))
 | .agg _,_=>true
 | .fn _ _,_=>true
 | .any,_=>false
 | .nils,v=>v.fits (.sl .unit)
 |_,v=>v.fits .ref
mutual
def Zck: (p:Pat)→AV→Acc (Zng p×Ids)
 | .own t true, .vw id=> .getH id fun
  |some (.vec t' xs)=> .opt (ZaP (.sl t') (.sl t) xs) fun y=> .ret (y,⟨[id],[]⟩)
  |_=> .fail
 | .own _ false,_=> .ret ((),Ids.none)
 | .var t p, .ptr id []=> .getH id fun
  |some (.var t' c)=>bif t' ==t&&p.fits t then(ext p c).bind fun r=> .ret (r.1,⟨id::r.2.tk,r.2.br⟩) else .fail
  |_=> .fail
 | .map kt vt, .mp id=> .getH id fun
  |some (.map k e m)=> .opt (ZaP (.sl (.prod k e)) (.sl (.prod kt vt)) m) fun y=> .ret (y,⟨[id],[]⟩)
  |_=> .fail
 | .rows t true, .vw id=> .getH id fun
  |some (.rows t' xs _ none)=> .opt (ZaP (.sl (.sl t')) (.sl (.sl t)) xs) fun y=> .ret (y,⟨[id],[]⟩)
  |_=> .fail
 | .rows _ false,_=> .ret ((),Ids.none)
 | .mrows kt t, .mp id=> .getH id fun
  |some (.mrows k t' m _ none)=> .opt (ZaP (.sl (.prod k (.sl t'))) (.sl (.prod kt (.sl t))) m) fun y=> .ret (y,⟨[id],[]⟩)
  |_=> .fail
 | .it _ _,_=> .ret ((),Ids.none)
 | .bld T e true, .ptr id []=> .getH id fun
  |some (.bld T' e' bs)=>bif Nat.beq T' T&&Nat.beq e' e then .ret (bs,⟨[id],[]⟩) else .fail
  |_=> .fail
 | .bld _ _ false,_=> .ret ((),Ids.none)
 | .agg l, .agg vs=>ZgM l vs
 | .fn f l, .fn f' vs=>bif Nat.beq f' f then ZgM l vs else .fail
 | .pd _,_=> .ret ((),Ids.none)
 | .ro _,_=> .ret ((),Ids.none)
 | .nilr,_=> .ret ((),Ids.none)
 | .nils,_=> .ret ((),Ids.none)
 | .any,_=> .ret ((),Ids.none)
 |_,_=> .fail
def ZgM: (l:Zao)→AVs→Acc (Zcf l×Ids)
 | .nil, .nil=> .ret ((),Ids.none)
 | .cons p l, .cons v vs=>bif ZnX p v then(Zck p v).bind fun x=>(ZgM l vs).bind fun y=> .ret ((x.1,y.1),x.2.app y.2) else .fail
 |_,_=> .fail
end
def ZhR: (l:Zao)→AVs→Acc (Zcf l×Ids)
 | .nil,_=> .ret ((),Ids.none)
 | .cons p l, .cons v vs=>bif p.back then(Zck p v).bind fun x=>(ZhR l vs).bind fun y=> .ret ((x.1,y.1),x.2.app y.2)
   else(ZhR l vs).bind fun y=> .ret ((ZqW p,y.1),y.2)
 |_,_=> .fail
def ZkU (E:Env) (s:AS):List ResultVar→Acc AVs
 | []=> .ret .nil
 | .tmp t::l=>(ZkU E s l).bind fun vs=> .ret (.cons (s.F t) vs)
 | .cell a T::l=> .opt (E.ty T) fun t=>(match s.F a with
  | .ptr id p=> .getH id fun
   |some (.var _ c)=>(Zhn c p).bind fun v=>bif v.fits t&&v.solid then(ZkU E s l).bind fun vs=> .ret (.cons v vs) else .fail
   |_=> .fail
  |_=> .fail)
def Zbk:Zao→Nat→List Nat
 | .nil,_=>[]
 | .cons p l,n=>(bif p.back then [n] else [])++Zbk l (n+1)
def Zao.len:Zao→Nat
 | .nil=>0
 | .cons _ l=>l.len+1
def Zhe (F:Nat→AV):Zao→Nat→AVs
 | .nil,_=> .nil
 | .cons _ l,n=> .cons (F n) (Zhe F l (n+1))
def Zoa (E:Env) (results:Array ResultVar) (args res:Zao) (fz:List Nat) (e:Ex) (s:AS):Option (Zcf args×Zdx res):=
 match e with
 | .exit _=>none
 |_=>((ZkU E s results.toList).bind fun vs=>(ZeG res vs).bind fun r=>(ZhR args (Zhe s.F args 0)).bind fun o=> .ret ((o.1,r.1),o.2.app r.2)).runK s.H [] fun r _=>
   bif r.2.ok fz&&Zdy r.2.br fz then some r.1 else none
def ZnA (ks:List Nat) (av:AVs) (H0:AH) (s:AS):List (Nat×Nat×Nat)→Bool
 | []=>true
 |k::l=>(match av.nth k.1,s.F k.1 with
  |some (.ptr id []), .ptr id' []=>(match H0 id,s.H id' with
   |some (.var T (.agg c)),some (.var T' (.agg c'))=>(match c.nth k.2.1,c'.nth k.2.1 with
    |some (.vw a),some (.vw b)=>Nat.beq a b&&T' ==T&&Nat.beq (ZpI T k.2.1) k.2.2&&Zdn k.1 ks
    |_,_=>false)
   |_,_=>false)
  |_,_=>false) &&ZnA ks av H0 s l
noncomputable def Zaz (E:Env) (body:Code) (results:Array ResultVar) (h:ZaW) (args res:Zao) {α:Type} (pack:Zcf args×Zdx res→α) (x:Zdx args) (kp:List (Nat×Nat×Nat):=[]):Option α:=
 let r:=ZcY args x 0
 ZbF body h {E with ks:=Zbk args 0} α ⟨r.1.toF,Zdj r.2.1,r.2.2,[]⟩ fun e s=>
  (Zoa E results args res [] e s).bind fun y=>bif ZnA (Zbk args 0) r.1 (Zdj r.2.1) s kp then some (pack y) else none
def mkE (tys:List (Nat×Ty)) (ms:List (Nat×Ty×Ty)) (pks:List (Nat×Nat)) (rws zxs:List Nat) (m:List (Nat×List Spec)) (nt:Nat) (bds:List (Nat×Nat):=[]):Env:=
 {ty:=fun n=>tys.lookup n,mty:=fun n=>ms.lookup n,pk:=fun n=>(pks.lookup n).getD 0,rw:=fun n=>rws.contains n,zx:=fun n=>zxs.contains n,bd:=fun n=>bds.lookup n,specs:=fun n=>(m.lookup n).getD [],nt:=nt,ks:=[] }
def Zam (f:Func):Code:=match f.body with
 |some b=>b
 |none=> .skip
end Tr
