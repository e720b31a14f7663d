/- The definitions of the abstract machine, the last part: states, regions, code, loops, functions. Conditions: none. -/
import Derived.Test.YtibiblkamaajeaaGreatTrD
namespace Tr
open Go
structure AS where
 F:Nat→AV
 H:AH
 nx:Nat
 fz:List Nat
def updF (F:Nat→AV) (n:Nat) (v:AV):Nat→AV:=fun k=>bif Nat.beq k n then v else F k
def putF (F:Nat→AV) (d:Option Nat) (v:AV):Nat→AV:=match d with
 |some n=>updF F n v
 |none=>F
def undefAV:AV:= .tup .nil
def patchH (H:AH):Patch→AH
 | []=>H
 |p::l=>patchH (updH H p.1 p.2) l
inductive Ex where
 |normal
 |exit (id:Nat)
 |ret
def Ex.beq:Ex→Ex→Bool
 | .normal, .normal=>true
 | .exit a, .exit b=>Nat.beq a b
 | .ret, .ret=>true
 |_,_=>false
def iter {σ τ:Type} (step:σ→Option (σ ⊕ τ)):Nat→σ→Option τ
 |0,_=>none
 |n+1,s=>match step s with
  |some (.inl s')=>iter step n s'
  |some (.inr r)=>some r
  |none=>none
open Classical in
noncomputable def run {σ τ:Type} (step:σ→Option (σ ⊕ τ)) (s:σ):Option τ:=
 match iter step 100000 s with
 |some r=>some r
 |none=>if h: ∃r n,iter step n s=some r then some h.choose else none
def DRun {σ τ ρ:Type} (cnt:σ→Nat) (step:σ→Nat→Option (σ ⊕ τ)) (k:τ→Option ρ) (z:ρ):Nat→σ→Prop
 |0,_=>False
 |n+1,s=> ∀i,i<cnt s→(∃s',step s i=some (.inl s')∧DRun cnt step k z n s')∨ ∃t,step s i=some (.inr t)∧k t=some z
def dfix {σ τ ρ:Type} (cnt:σ→Nat) (step:σ→Nat→Option (σ ⊕ τ)) (k:τ→Option ρ):Nat→σ→Option ρ
 |0,_=>none
 |n+1,s=>bif Nat.ble (cnt s) 1 then(match step s 0 with
  |some (.inl s')=>dfix cnt step k n s'
  |some (.inr t)=>k t
  |none=>none) else none
open Classical in
noncomputable def drun {σ τ ρ:Type} (cnt:σ→Nat) (step:σ→Nat→Option (σ ⊕ τ)) (k:τ→Option ρ) (s:σ):Option ρ:=
 match dfix cnt step k 1000 s with
 |some r=>some r
 |none=>if h: ∃z n,DRun cnt step k z n s then some h.choose else none
structure Trc where
 i:Nat
 rd:List Nat
 wr:List Nat
def okDst (E:Env):Option Nat→Bool
 |some d=>Nat.blt d E.nt&& !memB d E.ks
 |none=>true
def aopsK (E:Env) (ops:Array Oper) (base:Nat) (fz:List Nat) (ρ:Type):List (Oper×Nat)→(Nat→AV)→AH→List Trc→((Nat→AV)→AH→List Trc→Option ρ)→Option ρ
 | [],F,H,tr,k=>k F H tr
 | (o,i)::rest,F,H,tr,k=>
  let go:=fun(F:Nat→AV)=>bif okDst E o.dst then
   (aop E (base+i*idStep) o.op o.type (aev F)).runK H [] fun r rd=>
    bif disjB (r.2.map Prod.fst) fz then
     aopsK E ops base fz ρ rest (putF F o.dst r.1) (patchH H r.2) (⟨i,rd,r.2.map Prod.fst⟩::tr) k else none else none
  let skip:=fun(F:Nat→AV)=>bif okDst E o.dst then aopsK E ops base fz ρ rest (putF F o.dst undefAV) H tr k else none
  match o.guard with
  |none=>go F
  |some (j,want)=>match (ops[j]?).bind (·.dst) with
   |none=>none
   |some g=>match F g with
    | .d .bool b=>bif b then(bif want then go (updF F g (.d .bool true)) else skip (updF F g (.d .bool true)))
      else(bif want then skip (updF F g (.d .bool false)) else go (updF F g (.d .bool false)))
    | .tup .nil=>skip F
    |_=>none
def tmpsOf:List Operand→List Nat
 | []=>[]
 | .tmp t::l=>t::tmpsOf l
 |_::l=>tmpsOf l
def usesOf (ops:Array Oper) (o:Oper):List Nat:=
 (match o.guard with
  |some (j,_)=>((ops[j]?).bind (·.dst)).toList
  |none=>[])++tmpsOf o.op.operands.toList
def slotsIndep (ops:Array Oper) (a b:Oper):Bool:=
 (match a.dst with
  |some d=> !memB d (usesOf ops b) && (match b.dst with|some e=> !Nat.beq d e|none=>true)
  |none=>true) &&
 (match b.dst with
  |some d=> !memB d (usesOf ops a)
  |none=>true)
def trcOf (i:Nat):List Trc→Option Trc
 | []=>none
 |t::l=>bif Nat.beq t.i i then some t else trcOf i l
def trcIndep (tr:List Trc) (i j:Nat):Bool:=
 match trcOf i tr,trcOf j tr with
 |some a,some b=>disjB a.wr b.rd&&disjB a.wr b.wr&&disjB b.wr a.rd
 |_,_=>true
def unord (ops:Array Oper):List (Nat×Nat):=
 let b:=Region.before ops
 (List.range ops.size).flatMap fun j=>(List.range j).filterMap fun i=>if (b.getD j 0).testBit i then none else some (i,j)
def slotsOk (ops:Array Oper):Bool:=(unord ops).all fun p=>match ops[p.1]?,ops[p.2]? with
 |some a,some b=>slotsIndep ops a b
 |_,_=>true
def edgesOk (ops:Array Oper):Bool:=ops.toList.zipIdx.all fun p=>p.1.after.all fun e=> !Region.binds .any e||Nat.blt e.on p.2
def drawOk (ops:Array Oper) (tr:List Trc):Bool:=
 edgesOk ops&&slotsOk ops&& (tr.all (fun t=>t.wr.isEmpty) || (unord ops).all fun p=>trcIndep tr p.1 p.2)
@[reducible] def ElT:List (Nat×Ty)→Type
 | []=>Unit
 | [(_,t)]=>El t
 | (_,t)::p::l=>El t×ElT (p::l)
def outT (F:Nat→AV): (l:List (Nat×Ty))→Option (ElT l)
 | []=>some ()
 | [(n,t)]=>(match F n with
  | .d t' x=>castEl t' t x
  |_=>none)
 | (n,t)::p::l=>(match F n with
  | .d t' x=>(castEl t' t x).bind fun y=>(outT F (p::l)).bind fun z=>some (y,z)
  |_=>none)
def inT (F:Nat→AV): (l:List (Nat×Ty))→ElT l→Nat→AV
 | [],_=>F
 | [(n,t)],x=>updF F n (.d t x)
 | (n,t)::p::l,x=>inT (updF F n (.d t x.1)) (p::l) x.2
def junkF (l:List Nat) (F:Nat→AV):Nat→AV:=fun k=>bif memB k l then .junk else F k
def dstsOf (ops:List Oper):List Nat:=ops.filterMap (·.dst)
def regionK (E:Env) (ops:Array Oper) (draw:Bool) (outs:Option (List (Nat×Ty))) (ρ:Type) (s:AS) (k:AS→Option ρ):Option ρ:=
 let nx:=s.nx+ops.size*idStep
 match outs with
 |none=>aopsK E ops s.nx s.fz ρ ops.toList.zipIdx s.F s.H [] fun F H tr=>bif !draw||drawOk ops tr then k ⟨F,H,nx,s.fz⟩ else none
 |some l=>(aopsK E ops s.nx s.fz (ElT l) ops.toList.zipIdx s.F s.H [] fun F _ tr=>bif (!draw||drawOk ops tr) &&tr.all (fun t=>t.wr.isEmpty) then outT F l else none).bind
   fun x=>k ⟨inT (junkF (dstsOf ops.toList) s.F) l x,s.H,nx,s.fz⟩
structure Ents where
 roots:List (Nat×Pat)
 fns:List (Nat×FuncId×List Nat):=[]
 kept:List Nat:=[]
 als:List (Nat×Nat):=[]
 kf:List (Nat×Nat×Nat):=[]
 kv:List Nat:=[]
@[reducible] def ElR:List (Nat×Pat)→Type
 | []=>Unit
 | [(_,p)]=>ElP p
 | (_,p)::q::l=>ElP p×ElR (q::l)
def extR (F:Nat→AV): (l:List (Nat×Pat))→Acc (ElR l×Ids)
 | []=> .ret ((),Ids.none)
 | [(n,p)]=>ext p (F n)
 | (n,p)::q::l=>(ext p (F n)).bind fun x=>(extR F (q::l)).bind fun y=> .ret ((x.1,y.1),x.2.app y.2)
def injR: (l:List (Nat×Pat))→ElR l→Nat→List (Nat×AV) ×List (Nat×AObj) ×Nat
 | [],_,n=>([],[],n)
 | [(m,p)],x,n=>let r:=inj p x n;([(m,r.1)],r.2.1,r.2.2)
 | (m,p)::q::l,x,n=>let r:=inj p x.1 n;let s:=injR (q::l) x.2 r.2.2;((m,r.1)::s.1,r.2.1++s.2.1,s.2.2)
def lookF:List (Nat×AV)→Nat→AV
 | [],_=> .junk
 |p::l,k=>bif Nat.beq k p.1 then p.2 else lookF l k
def lookH:List (Nat×AObj)→AH
 | [],_=>none
 |p::l,k=>bif Nat.beq k p.1 then some p.2 else lookH l k
def AV.box? :AV→Option Nat
 | .ptr id []=>some id
 |_=>none
def capsAre (F:Nat→AV):AVs→List Nat→Bool
 | .nil,[]=>true
 | .cons v l,n::m=>(match v.box?,(F n).box? with
  |some a,some b=>Nat.beq a b
  |_,_=>false) &&capsAre F l m
 |_,_=>false
def fnsOk (F:Nat→AV):List (Nat×FuncId×List Nat)→Bool
 | []=>true
 | (n,f,l)::m=>(match F n with
  | .fn f' caps=>Nat.beq f' f&&capsAre F caps l
  |_=>false) &&fnsOk F m
def addFns (F:Nat→AV):List (Nat×FuncId×List Nat)→Nat→AV
 | []=>F
 | (n,f,l)::m=>updF (addFns F m) n (.fn f (AVs.ofList (l.map F)))
def aliasB (x y:AV):Bool:=match x,y with
 | .vw a, .vw b=>Nat.beq a b
 | .mp a, .mp b=>Nat.beq a b
 | .ptr a [], .ptr b []=>Nat.beq a b
 | .nils, .nils=>true
 |_,_=>false
def alsOk (F:Nat→AV):List (Nat×Nat)→Bool
 | []=>true
 |p::l=>aliasB (F p.1) (F p.2) &&alsOk F l
def addAls (F:Nat→AV):List (Nat×Nat)→Nat→AV
 | []=>F
 |p::l=>updF (addAls F l) p.1 (F p.2)
def AV.boxes:AVs→List Nat
 | .nil=>[]
 | .cons v l=>v.box?.toList++AV.boxes l
def keptIds (s:AS):List Nat→List Nat
 | []=>[]
 |n::l=>(match s.F n with
  | .ptr id []=>[id]
  | .vw id=>[id]
  | .nw id _ _ _=>[id]
  | .mp id=>[id]
  | .fn _ caps=>AV.boxes caps
  |_=>[])++keptIds s l
def objD (H:AH) (id:Nat):Bool:=match H id with
 |some (.var _ (.d _ _))=>true
 |some (.vec _ _)=>true
 |some (.map _ _ _)=>true
 |some (.rows _ _ _ none)=>true
 |some (.mrows _ _ _ _ none)=>true
 |some (.rng _ _ _ _)=>true
 |some (.dat _ _)=>true
 |some (.bld _ _ _)=>true
 |_=>false
def boxesD (H:AH):AVs→Bool
 | .nil=>true
 | .cons v l=>(match v with
  | .ptr id []=>objD H id
  | .dp _ _=>true
  | .d _ _=>true
  |_=>false) &&boxesD H l
def keptOk (s:AS):List Nat→Bool
 | []=>true
 |n::l=>(match s.F n with
  | .d _ _=>true
  | .dp _ _=>true
  | .nilr=>true
  | .nils=>true
  | .ptr id []=>objD s.H id
  | .vw id=>objD s.H id
  | .nw id _ _ _=>objD s.H id
  | .mp id=>objD s.H id
  | .fn _ caps=>boxesD s.H caps
  |_=>false) &&keptOk s l
def keptFz (b:AS) (e:Ents):List Nat:=keptIds b e.kept++b.fz
def keptE (E:Env) (e:Ents):Env:= {E with ks:=e.kept++(e.kv++E.ks) }
def outOf0 (fz:List Nat) (e:Ents) (s:AS):Option (ElR e.roots):=
 (extR s.F e.roots).runK s.H [] fun r _=>bif r.2.ok fz&&disjB r.2.br fz&&fnsOk s.F e.fns&&alsOk s.F e.als then some r.1 else none
def inOf0 (b:AS) (fz:List Nat) (e:Ents) (x:ElR e.roots):AS:=
 let r:=injR e.roots x b.nx
 ⟨addAls (addFns (fun k=>bif memB k e.kept then b.F k else lookF r.1 k) e.fns) e.als,fun id=>bif memB id (keptFz b e) then b.H id else lookH r.2.1 id,r.2.2,fz⟩
def kfId (s:AS) (k:Nat×Nat×Nat):Option Nat:=match s.F k.1 with
 | .ptr id []=>(match s.H id with
  |some (.var T (.agg c))=>(match c.nth k.2.1 with
   |some (.vw a)=>bif Nat.beq (offA T k.2.1) k.2.2 then some a else none
   |_=>none)
  |_=>none)
 |_=>none
def kfOk (b s:AS):List (Nat×Nat×Nat)→Bool
 | []=>true
 |k::l=>(match kfId b k,kfId s k with
  |some x,some y=>Nat.beq x y
  |_,_=>false) &&kfOk b s l
def ren1 (b:AS) (fz:List Nat) (k:Nat×Nat×Nat) (s:AS):AS:=match kfId b k,kfId s k,s.F k.1 with
 |some a,some a2, .ptr id []=>(match s.H id,s.H a2,b.H a with
  |some (.var T (.agg c)),some (.vec t xs),some (.vec t0 _)=>bif t0==t&& !Nat.beq a2 id&& !Nat.beq a id&& !memB a fz&& !memB a2 fz&& !memB id fz then
    {s with H:=updH (updH (updH (updH s.H a2 none) id none) a (some (.vec t xs))) id (some (.var T (.agg (c.putNth k.2.1 (.vw a))))) } else s
  |_,_,_=>s)
 |_,_,_=>s
def renK (b:AS) (fz:List Nat):List (Nat×Nat×Nat)→AS→AS
 | [],s=>s
 |k::l,s=>renK b fz l (ren1 b fz k s)
def addKv (b:AS):List Nat→(Nat→AV)→Nat→AV
 | [],F=>F
 |n::l,F=>addKv b l (updF F n (b.F n))
def outOf (b:AS) (fz:List Nat) (e:Ents) (s:AS):Option (ElR e.roots):=bif kfOk b s e.kf then outOf0 fz e s else none
def inOf (b:AS) (fz:List Nat) (e:Ents) (x:ElR e.roots):AS:=
 let s:=renK b (keptFz b e) e.kf (inOf0 b fz e x)
 ⟨addKv b e.kv s.F,s.H,s.nx,fz⟩
abbrev Exits:=List (Ex×Ents)
@[reducible] def OutTy:Exits→Type
 | []=>Empty
 | [e]=>ElR e.2.roots
 |e::f::l=>ElR e.2.roots ⊕ OutTy (f::l)
def mkOut (b:AS) (fz:List Nat): (J:Exits)→Ex→AS→Option (OutTy J)
 | [],_,_=>none
 | [e],x,s=>bif x.beq e.1 then outOf b fz e.2 s else none
 |e::f::l,x,s=>bif x.beq e.1 then(outOf b fz e.2 s).bind fun y=>some (.inl y) else(mkOut b fz (f::l) x s).bind fun y=>some (.inr y)
def useOut {ρ:Type} (b:AS): (J:Exits)→OutTy J→(Ex→AS→Option ρ)→Option ρ
 | [],_,_=>none
 | [e],y,k=>k e.1 (inOf b b.fz e.2 y)
 |e::f::l,y,k=>match y with
  | .inl y=>k e.1 (inOf b b.fz e.2 y)
  | .inr y=>useOut b (f::l) y k
def Ents.slots (e:Ents):List Nat:=e.roots.map Prod.fst++e.fns.map Prod.fst++e.kept
def keepsIn (e:Ents):Exits→Bool
 | []=>true
 |f::l=>f.2.kept.all (fun n=>memB n e.kept) &&f.2.kv.all (fun n=>memB n e.kv) &&nodupB f.2.slots&&keepsIn e l
inductive Hint where
 |leaf
 |seq (a b:Hint)
 |cnd (J:Option (Ents×Exits)) (a b:Hint)
 |lp (e:Ents) (J:Exits) (h:Hint)
 |lpd (it:Nat) (e:Ents) (J:Exits) (h:Hint)
 |reg (outs:List (Nat×Ty))
def Hint.l:Hint→Hint
 | .seq a _=>a
 | .cnd _ a _=>a
 |_=> .leaf
def Hint.r:Hint→Hint
 | .seq _ b=>b
 | .cnd _ _ b=>b
 |_=> .leaf
def Hint.join:Hint→Option (Ents×Exits)
 | .cnd J _ _=>J
 |_=>none
def Hint.outs:Hint→Option (List (Nat×Ty))
 | .reg l=>some l
 |_=>none
def rngCnt (it:Nat) (s:AS):Nat:=match s.F it with
 | .ptr id []=>(match s.H id with
  |some (.rng _ _ rest _)=>bif rest.isEmpty then 1 else rest.length
  |_=>1)
 |_=>1
def nextK (E:Env) (ops:Array Oper) (it i:Nat) (ρ:Type) (s:AS) (k:AS→Option ρ):Option ρ:=
 match ops.toList.zipIdx with
 | []=>none
 | (o,_)::l=>(match o.op,o.guard,o.dst with
  | .next (.tmp it') false,none,some d=>bif Nat.beq it' it&&okDst E (some d) then(match s.F it with
   | .ptr id []=>(match s.H id with
    |some (.rng kt vt rest _)=>bif memB id s.fz then none else
      bif rest.isEmpty then aopsK E ops s.nx s.fz ρ l (putF s.F (some d) (.tup (.cons (.d .bool false) .nil))) s.H [] fun F H _=>k ⟨F,H,s.nx+ops.size*idStep,s.fz⟩
      else(rest[i]?).bind fun e=>aopsK E ops s.nx s.fz ρ l (putF s.F (some d) (.tup (.cons (.d .bool true) (.cons (.d kt e.1) (.cons (.d vt e.2) .nil)))))
       (updH s.H id (some (.rng kt vt (rest.eraseIdx i) (some e)))) [] fun F H _=>k ⟨F,H,s.nx+ops.size*idStep,s.fz⟩
    |_=>none)
   |_=>none) else none
  |_,_,_=>none)
noncomputable def codeK:Code→Hint→Env→(ρ:Type)→AS→(Ex→AS→Option ρ)→Option ρ
 | .skip,_,_,_,s,k=>k .normal s
 | .label _,_,_,_,s,k=>k .normal s
 | .scope c,h,E,ρ,s,k=>codeK c h E ρ s k
 | .region _ ops draw,h,E,ρ,s,k=>regionK E ops draw h.outs ρ s (k .normal)
 | .seq a b,h,E,ρ,s,k=>codeK a h.l E ρ s fun e s' =>match e with
  | .normal=>codeK b h.r E ρ s' k
  |e=>k e s'
 | .cond c a b,h,E,ρ,s,k=>match aev s.F c with
  | .d .bool t=>(match h.join with
   |none=>bif t then codeK a h.l E ρ s k else codeK b h.r E ρ s k
   |some (e,J)=>bif keptOk s e.kept&&keepsIn e J then
     (let s1:AS:= {s with fz:=keptFz s e}
      bif t then codeK a h.l (keptE E e) (OutTy J) s1 (mkOut s (keptFz s e) J) else codeK b h.r (keptE E e) (OutTy J) s1 (mkOut s (keptFz s e) J)).bind fun o=>useOut s J o k
    else none)
  |_=>none
 | .block id c,h,E,ρ,s,k=>codeK c h E ρ s fun e s' =>match e with
  | .exit i=>bif Nat.beq i id then k .normal s' else k (.exit i) s'
  |e=>k e s'
 | .loop c,h,E,_,s,k=>match h with
  | .lp en J hb=>bif keptOk s en.kept&&keepsIn en J&&nodupB en.slots then
    (outOf s (keptFz s en) en s).bind fun x=>(run (fun y=>codeK c hb (keptE E en) (ElR en.roots ⊕ OutTy J) (inOf s (keptFz s en) en y) fun e s' =>match e with
     | .normal=>(outOf s (keptFz s en) en s').bind fun z=>some (.inl z)
     |e=>(mkOut s (keptFz s en) J e s').bind fun z=>some (.inr z)) x).bind fun o=>useOut s J o k
   else none
  | .lpd it en J hb=>(match c with
   | .seq (.region _ ops false) c2=>bif keptOk s en.kept&&keepsIn en J&&nodupB en.slots then
     (outOf s (keptFz s en) en s).bind fun x=>drun (fun y=>rngCnt it (inOf s (keptFz s en) en y)) (fun y i=>nextK (keptE E en) ops it i (ElR en.roots ⊕ OutTy J) (inOf s (keptFz s en) en y) fun s1=>codeK c2 hb (keptE E en) (ElR en.roots ⊕ OutTy J) s1 fun e s' =>match e with
      | .normal=>(outOf s (keptFz s en) en s').bind fun z=>some (.inl z)
      |e=>(mkOut s (keptFz s en) J e s').bind fun z=>some (.inr z)) (fun o=>useOut s J o k) x
    else none
   |_=>none)
  |_=>none
 | .exit id,_,_,_,s,k=>k (.exit id) s
 | .ret,_,_,_,s,k=>k .ret s
 |_,_,_,_,_,_=>none
def AVs.toF:AVs→Nat→AV
 | .nil,_=>undefAV
 | .cons v _,0=>v
 | .cons _ l,n+1=>l.toF n
mutual
def Pat.back:Pat→Bool
 | .own _ k=>k
 | .var _ _=>true
 | .map _ _=>true
 | .rows _ k=>k
 | .mrows _ _=>true
 | .bld _ _ k=>k
 | .agg l=>l.back
 | .fn _ l=>l.back
 |_=>false
def Pats.back:Pats→Bool
 | .nil=>false
 | .cons p l=>p.back||l.back
end
mutual
def elDef: (p:Pat)→ElP p
 | .pd t=>zeroEl t
 | .own _ _=>[]
 | .var _ p=>elDef p
 | .ro t=>zeroEl t
 | .map _ _=>[]
 | .rows _ _=>[]
 | .mrows _ _=>[]
 | .it _ _=>[]
 | .bld _ _ _=>[]
 | .agg l=>elDefs l
 | .fn _ l=>elDefs l
 | .nilr=>()
 | .nils=>()
 | .any=>()
def elDefs: (l:Pats)→ElPs l
 | .nil=>()
 | .cons p l=>(elDef p,elDefs l)
end
mutual
def outDef: (p:Pat)→OutP p
 | .own _ true=>[]
 | .own _ false=>()
 | .var _ p=>elDef p
 | .map _ _=>[]
 | .rows _ true=>[]
 | .rows _ false=>()
 | .mrows _ _=>[]
 | .it _ _=>()
 | .bld _ _ true=>[]
 | .bld _ _ false=>()
 | .agg l=>outDefs l
 | .fn _ l=>outDefs l
 | .pd _=>()
 | .ro _=>()
 | .nilr=>()
 | .nils=>()
 | .any=>()
def outDefs: (l:Pats)→OutPs l
 | .nil=>()
 | .cons p l=>(outDef p,outDefs l)
end
def cellOk:Pat→AV→Bool
 | .pd t,v=>v.fits t
 | .own t _,v=>v.fits (.sl t)
 | .rows t _,v=>v.fits (.sl (.sl t))
 | .agg _,_=>true
 | .fn _ _,_=>true
 | .any,_=>false
 | .nils,v=>v.fits (.sl .unit)
 |_,v=>v.fits .ref
mutual
def outsP: (p:Pat)→AV→Acc (OutP p×Ids)
 | .own t true, .vw id=> .getH id fun
  |some (.vec t' xs)=> .opt (castEl (.sl t') (.sl t) xs) fun y=> .ret (y,⟨[id],[]⟩)
  |_=> .fail
 | .own _ false,_=> .ret ((),Ids.none)
 | .var t p, .ptr id []=> .getH id fun
  |some (.var t' c)=>bif t' ==t&&p.fits t then(ext p c).bind fun r=> .ret (r.1,⟨id::r.2.tk,r.2.br⟩) else .fail
  |_=> .fail
 | .map kt vt, .mp id=> .getH id fun
  |some (.map k e m)=> .opt (castEl (.sl (.prod k e)) (.sl (.prod kt vt)) m) fun y=> .ret (y,⟨[id],[]⟩)
  |_=> .fail
 | .rows t true, .vw id=> .getH id fun
  |some (.rows t' xs _ none)=> .opt (castEl (.sl (.sl t')) (.sl (.sl t)) xs) fun y=> .ret (y,⟨[id],[]⟩)
  |_=> .fail
 | .rows _ false,_=> .ret ((),Ids.none)
 | .mrows kt t, .mp id=> .getH id fun
  |some (.mrows k t' m _ none)=> .opt (castEl (.sl (.prod k (.sl t'))) (.sl (.prod kt (.sl t))) m) fun y=> .ret (y,⟨[id],[]⟩)
  |_=> .fail
 | .it _ _,_=> .ret ((),Ids.none)
 | .bld T e true, .ptr id []=> .getH id fun
  |some (.bld T' e' bs)=>bif Nat.beq T' T&&Nat.beq e' e then .ret (bs,⟨[id],[]⟩) else .fail
  |_=> .fail
 | .bld _ _ false,_=> .ret ((),Ids.none)
 | .agg l, .agg vs=>outsCs l vs
 | .fn f l, .fn f' vs=>bif Nat.beq f' f then outsCs l vs else .fail
 | .pd _,_=> .ret ((),Ids.none)
 | .ro _,_=> .ret ((),Ids.none)
 | .nilr,_=> .ret ((),Ids.none)
 | .nils,_=> .ret ((),Ids.none)
 | .any,_=> .ret ((),Ids.none)
 |_,_=> .fail
def outsCs: (l:Pats)→AVs→Acc (OutPs l×Ids)
 | .nil, .nil=> .ret ((),Ids.none)
 | .cons p l, .cons v vs=>bif cellOk p v then(outsP p v).bind fun x=>(outsCs l vs).bind fun y=> .ret ((x.1,y.1),x.2.app y.2) else .fail
 |_,_=> .fail
end
def outsPs: (l:Pats)→AVs→Acc (OutPs l×Ids)
 | .nil,_=> .ret ((),Ids.none)
 | .cons p l, .cons v vs=>bif p.back then(outsP p v).bind fun x=>(outsPs l vs).bind fun y=> .ret ((x.1,y.1),x.2.app y.2)
   else(outsPs l vs).bind fun y=> .ret ((outDef p,y.1),y.2)
 |_,_=> .fail
def resAV (E:Env) (s:AS):List ResultVar→Acc AVs
 | []=> .ret .nil
 | .tmp t::l=>(resAV E s l).bind fun vs=> .ret (.cons (s.F t) vs)
 | .cell a T::l=> .opt (E.ty T) fun t=>(match s.F a with
  | .ptr id p=> .getH id fun
   |some (.var _ c)=>(getAV c p).bind fun v=>bif v.fits t&&v.solid then(resAV E s l).bind fun vs=> .ret (.cons v vs) else .fail
   |_=> .fail
  |_=> .fail)
def backSlots:Pats→Nat→List Nat
 | .nil,_=>[]
 | .cons p l,n=>(bif p.back then [n] else [])++backSlots l (n+1)
def Pats.len:Pats→Nat
 | .nil=>0
 | .cons _ l=>l.len+1
def slotAVs (F:Nat→AV):Pats→Nat→AVs
 | .nil,_=> .nil
 | .cons _ l,n=> .cons (F n) (slotAVs F l (n+1))
def exitK (E:Env) (results:Array ResultVar) (args res:Pats) (fz:List Nat) (e:Ex) (s:AS):Option (OutPs args×ElPs res):=
 match e with
 | .exit _=>none
 |_=>((resAV E s results.toList).bind fun vs=>(exts res vs).bind fun r=>(outsPs args (slotAVs s.F args 0)).bind fun o=> .ret ((o.1,r.1),o.2.app r.2)).runK s.H [] fun r _=>
   bif r.2.ok fz&&disjB r.2.br fz then some r.1 else none
def keptX (ks:List Nat) (av:AVs) (H0:AH) (s:AS):List (Nat×Nat×Nat)→Bool
 | []=>true
 |k::l=>(match av.nth k.1,s.F k.1 with
  |some (.ptr id []), .ptr id' []=>(match H0 id,s.H id' with
   |some (.var T (.agg c)),some (.var T' (.agg c'))=>(match c.nth k.2.1,c'.nth k.2.1 with
    |some (.vw a),some (.vw b)=>Nat.beq a b&&T' ==T&&Nat.beq (offA T k.2.1) k.2.2&&memB k.1 ks
    |_,_=>false)
   |_,_=>false)
  |_,_=>false) &&keptX ks av H0 s l
noncomputable def evalF (E:Env) (body:Code) (results:Array ResultVar) (h:Hint) (args res:Pats) {α:Type} (pack:OutPs args×ElPs res→α) (x:ElPs args) (kp:List (Nat×Nat×Nat):=[]):Option α:=
 let r:=injs args x 0
 codeK body h {E with ks:=backSlots args 0} α ⟨r.1.toF,lookH r.2.1,r.2.2,[]⟩ fun e s=>
  (exitK E results args res [] e s).bind fun y=>bif keptX (backSlots args 0) r.1 (lookH r.2.1) s kp then some (pack y) else none
def mkE (tys:List (Nat×Ty)) (ms:List (Nat×Ty×Ty)) (pks:List (Nat×Nat)) (rws zxs:List Nat) (m:List (Nat×List Spec)) (nt:Nat) (bds:List (Nat×Nat):=[]):Env:=
 {ty:=fun n=>tys.lookup n,mty:=fun n=>ms.lookup n,pk:=fun n=>(pks.lookup n).getD 0,rw:=fun n=>rws.contains n,zx:=fun n=>zxs.contains n,bd:=fun n=>bds.lookup n,specs:=fun n=>(m.lookup n).getD [],nt:=nt,ks:=[] }
def codeOf (f:Func):Code:=match f.body with
 |some b=>b
 |none=> .skip
end Tr
