/- The definitions of the abstract machine, the last part: states, regions, code, loops, functions. Conditions: none. -/
import Derived.Test.YtckebckjnfcniaaGreatTrD
namespace Tr
open Go
structure AS where
 F:Nat→AV
 H:AH
 nx:Nat
 fz:List Nat
def Zi6 (F:Nat→AV) (n:Nat) (v:AV):Nat→AV:=fun k=>bif Nat.beq k n then v else F k
def ZfK (F:Nat→AV) (d:Option Nat) (v:AV):Nat→AV:=match d with
 |some n=>Zi6 F n v
 |none=>F
def ZfZ:AV:= .tup .nil
def Zad (H:AH):Zbe→AH
 | []=>H
 |p::l=>Zad (ZbI H p.1 p.2) l
inductive Ex where
 |normal
 |exit (id:Nat)
 |ret
def Ex.beq:Ex→Ex→Bool
 | .normal, .normal=>true
 | .exit a, .exit b=>Nat.beq a b
 | .ret, .ret=>true
 |_,_=>false
def Zhr {σ τ:Type} (step:σ→Option (σ ⊕ τ)):Nat→σ→Option τ
 |0,_=>none
 |n+1,s=>match step s with
  |some (.inl s')=>Zhr step n s'
  |some (.inr r)=>some r
  |none=>none
open Classical in
noncomputable def run {σ τ:Type} (step:σ→Option (σ ⊕ τ)) (s:σ):Option τ:=
 match Zhr step 100000 s with
 |some r=>some r
 |none=>if h: ∃r n,Zhr step n s=some r then some h.choose else none
def ZmA {σ τ ρ:Type} (cnt:σ→Nat) (step:σ→Nat→Option (σ ⊕ τ)) (k:τ→Option ρ) (z:ρ):Nat→σ→Prop
 |0,_=>False
 |n+1,s=> ∀i,i<cnt s→(∃s',step s i=some (.inl s')∧ZmA cnt step k z n s')∨ ∃t,step s i=some (.inr t)∧k t=some z
def Zsk {σ τ ρ:Type} (cnt:σ→Nat) (step:σ→Nat→Option (σ ⊕ τ)) (k:τ→Option ρ):Nat→σ→Option ρ
 |0,_=>none
 |n+1,s=>bif Nat.ble (cnt s) 1 then(match step s 0 with
  |some (.inl s')=>Zsk cnt step k n s'
  |some (.inr t)=>k t
  |none=>none) else none
open Classical in
noncomputable def drun {σ τ ρ:Type} (cnt:σ→Nat) (step:σ→Nat→Option (σ ⊕ τ)) (k:τ→Option ρ) (s:σ):Option ρ:=
 match Zsk cnt step k 1000 s with
 |some r=>some r
 |none=>if h: ∃z n,ZmA cnt step k z n s then some h.choose else none
structure Trc where
 i:Nat
 rd:List Nat
 wr:List Nat
def Ze6 (E:Env):Option Nat→Bool
 |some d=>Nat.blt d E.nt&& !ZdG d E.ks
 |none=>true
def ZeM (E:Env) (ops:Array Oper) (base:Nat) (fz:List Nat) (ρ:Type):List (Oper×Nat)→(Nat→AV)→AH→List Trc→((Nat→AV)→AH→List Trc→Option ρ)→Option ρ
 | [],F,H,tr,k=>k F H tr
 | (o,i)::rest,F,H,tr,k=>
  let go:=fun(F:Nat→AV)=>bif Ze6 E o.dst then
   (aop E (base+i*ZaB) o.op o.type (aev F)).runK H [] fun r rd=>
    bif ZdB (r.2.map Prod.fst) fz then
     ZeM E ops base fz ρ rest (ZfK F o.dst r.1) (Zad H r.2) (⟨i,rd,r.2.map Prod.fst⟩::tr) k else none else none
  let skip:=fun(F:Nat→AV)=>bif Ze6 E o.dst then ZeM E ops base fz ρ rest (ZfK F o.dst ZfZ) H tr k else none
  match o.guard with
  |none=>go F
  |some (j,want)=>match (ops[j]?).bind (·.dst) with
   |none=>none
   |some g=>match F g with
    | .d .bool b=>bif b then(bif want then go (Zi6 F g (.d .bool true)) else skip (Zi6 F g (.d .bool true)))
      else(bif want then skip (Zi6 F g (.d .bool false)) else go (Zi6 F g (.d .bool false)))
    | .tup .nil=>skip F
    |_=>none
def Zhf:List Operand→List Nat
 | []=>[]
 | .tmp t::l=>t::Zhf l
 |_::l=>Zhf l
def Zed (ops:Array Oper) (o:Oper):List Nat:=
 (match o.guard with
  |some (j,_)=>((ops[j]?).bind (·.dst)).toList
  |none=>[])++Zhf o.op.operands.toList
def ZeE (ops:Array Oper) (a b:Oper):Bool:=
 (match a.dst with
  |some d=> !ZdG d (Zed ops b) && (match b.dst with|some e=> !Nat.beq d e|none=>true)
  |none=>true) &&
 (match b.dst with
  |some d=> !ZdG d (Zed ops a)
  |none=>true)
def ZdJ (i:Nat):List Trc→Option Trc
 | []=>none
 |t::l=>bif Nat.beq t.i i then some t else ZdJ i l
def Zl2 (tr:List Trc) (i j:Nat):Bool:=
 match ZdJ i tr,ZdJ j tr with
 |some a,some b=>ZdB a.wr b.rd&&ZdB a.wr b.wr&&ZdB b.wr a.rd
 |_,_=>true
def ZpW (ops:Array Oper):List (Nat×Nat):=
 let b:=Region.before ops
 (List.range ops.size).flatMap fun j=>(List.range j).filterMap fun i=>if (b.getD j 0).testBit i then none else some (i,j)
def Zrg (ops:Array Oper):Bool:=(ZpW ops).all fun p=>match ops[p.1]?,ops[p.2]? with
 |some a,some b=>ZeE ops a b
 |_,_=>true
def Zkp (ops:Array Oper):Bool:=ops.toList.zipIdx.all fun p=>p.1.after.all fun e=> !Region.binds .any e||Nat.blt e.on p.2
def ZhC (ops:Array Oper) (tr:List Trc):Bool:=
 Zkp ops&&Zrg ops&& (tr.all (fun t=>t.wr.isEmpty) || (ZpW ops).all fun p=>Zl2 tr p.1 p.2)
@[reducible] def ElT:List (Nat×Ty)→Type
 | []=>Unit
 | [(_,t)]=>El t
 | (_,t)::p::l=>El t×ElT (p::l)
def Zsb (F:Nat→AV): (l:List (Nat×Ty))→Option (ElT l)
 | []=>some ()
 | [(n,t)]=>(match F n with
  | .d t' x=>ZaO t' t x
  |_=>none)
 | (n,t)::p::l=>(match F n with
  | .d t' x=>(ZaO t' t x).bind fun y=>(Zsb F (p::l)).bind fun z=>some (y,z)
  |_=>none)
def inT (F:Nat→AV): (l:List (Nat×Ty))→ElT l→Nat→AV
 | [],_=>F
 | [(n,t)],x=>Zi6 F n (.d t x)
 | (n,t)::p::l,x=>inT (Zi6 F n (.d t x.1)) (p::l) x.2
def Zrk (l:List Nat) (F:Nat→AV):Nat→AV:=fun k=>bif ZdG k l then .junk else F k
def Zmh (ops:List Oper):List Nat:=ops.filterMap (·.dst)
def ZkX (E:Env) (ops:Array Oper) (draw:Bool) (outs:Option (List (Nat×Ty))) (ρ:Type) (s:AS) (k:AS→Option ρ):Option ρ:=
 let nx:=s.nx+ops.size*ZaB
 match outs with
 |none=>ZeM E ops s.nx s.fz ρ ops.toList.zipIdx s.F s.H [] fun F H tr=>bif !draw||ZhC ops tr then k ⟨F,H,nx,s.fz⟩ else none
 |some l=>(ZeM E ops s.nx s.fz (ElT l) ops.toList.zipIdx s.F s.H [] fun F _ tr=>bif (!draw||ZhC ops tr) &&tr.all (fun t=>t.wr.isEmpty) then Zsb F l else none).bind
   fun x=>k ⟨inT (Zrk (Zmh ops.toList) s.F) l x,s.H,nx,s.fz⟩
structure Zgt where
 roots:List (Nat×Pat)
 fns:List (Nat×FuncId×List Nat):=[]
 kept:List Nat:=[]
 als:List (Nat×Nat):=[]
 kf:List (Nat×Nat×Nat):=[]
 kv:List Nat:=[]
@[reducible] def ElR:List (Nat×Pat)→Type
 | []=>Unit
 | [(_,p)]=>ElP p
 | (_,p)::q::l=>ElP p×ElR (q::l)
def ZrB (F:Nat→AV): (l:List (Nat×Pat))→Acc (ElR l×Ids)
 | []=> .ret ((),Ids.none)
 | [(n,p)]=>ext p (F n)
 | (n,p)::q::l=>(ext p (F n)).bind fun x=>(ZrB F (q::l)).bind fun y=> .ret ((x.1,y.1),x.2.app y.2)
def Zej: (l:List (Nat×Pat))→ElR l→Nat→List (Nat×AV) ×List (Nat×ZdI) ×Nat
 | [],_,n=>([],[],n)
 | [(m,p)],x,n=>let r:=inj p x n;([(m,r.1)],r.2.1,r.2.2)
 | (m,p)::q::l,x,n=>let r:=inj p x.1 n;let s:=Zej (q::l) x.2 r.2.2;((m,r.1)::s.1,r.2.1++s.2.1,s.2.2)
def Zjg:List (Nat×AV)→Nat→AV
 | [],_=> .junk
 |p::l,k=>bif Nat.beq k p.1 then p.2 else Zjg l k
def Zdl:List (Nat×ZdI)→AH
 | [],_=>none
 |p::l,k=>bif Nat.beq k p.1 then some p.2 else Zdl l k
def AV.box? :AV→Option Nat
 | .ptr id []=>some id
 |_=>none
def ZdN (F:Nat→AV):AVs→List Nat→Bool
 | .nil,[]=>true
 | .cons v l,n::m=>(match v.box?,(F n).box? with
  |some a,some b=>Nat.beq a b
  |_,_=>false) &&ZdN F l m
 |_,_=>false
def Zou (F:Nat→AV):List (Nat×FuncId×List Nat)→Bool
 | []=>true
 | (n,f,l)::m=>(match F n with
  | .fn f' caps=>Nat.beq f' f&&ZdN F caps l
  |_=>false) &&Zou F m
def Zmc (F:Nat→AV):List (Nat×FuncId×List Nat)→Nat→AV
 | []=>F
 | (n,f,l)::m=>Zi6 (Zmc F m) n (.fn f (AVs.ofList (l.map F)))
def Zo7 (x y:AV):Bool:=match x,y with
 | .vw a, .vw b=>Nat.beq a b
 | .mp a, .mp b=>Nat.beq a b
 | .ptr a [], .ptr b []=>Nat.beq a b
 | .nils, .nils=>true
 |_,_=>false
def ZnW (F:Nat→AV):List (Nat×Nat)→Bool
 | []=>true
 |p::l=>Zo7 (F p.1) (F p.2) &&ZnW F l
def Zlz (F:Nat→AV):List (Nat×Nat)→Nat→AV
 | []=>F
 |p::l=>Zi6 (Zlz F l) p.1 (F p.2)
def AV.boxes:AVs→List Nat
 | .nil=>[]
 | .cons v l=>v.box?.toList++AV.boxes l
def ZcT (s:AS):List Nat→List Nat
 | []=>[]
 |n::l=>(match s.F n with
  | .ptr id []=>[id]
  | .vw id=>[id]
  | .nw id _ _ _=>[id]
  | .mp id=>[id]
  | .fn _ caps=>AV.boxes caps
  |_=>[])++ZcT s l
def Zi4 (H:AH) (id:Nat):Bool:=match H id with
 |some (.var _ (.d _ _))=>true
 |some (.vec _ _)=>true
 |some (.map _ _ _)=>true
 |some (.rows _ _ _ none)=>true
 |some (.mrows _ _ _ _ none)=>true
 |some (.rng _ _ _ _)=>true
 |some (.dat _ _)=>true
 |some (.bld _ _ _)=>true
 |_=>false
def ZlG (H:AH):AVs→Bool
 | .nil=>true
 | .cons v l=>(match v with
  | .ptr id []=>Zi4 H id
  | .dp _ _=>true
  | .d _ _=>true
  |_=>false) &&ZlG H l
def Zd0 (s:AS):List Nat→Bool
 | []=>true
 |n::l=>(match s.F n with
  | .d _ _=>true
  | .dp _ _=>true
  | .nilr=>true
  | .nils=>true
  | .ptr id []=>Zi4 s.H id
  | .vw id=>Zi4 s.H id
  | .nw id _ _ _=>Zi4 s.H id
  | .mp id=>Zi4 s.H id
  | .fn _ caps=>ZlG s.H caps
  |_=>false) &&Zd0 s l
def Zau (b:AS) (e:Zgt):List Nat:=ZcT b e.kept++b.fz
def Zbu (E:Env) (e:Zgt):Env:= {E with ks:=e.kept++(e.kv++E.ks) }
def Zo2 (fz:List Nat) (e:Zgt) (s:AS):Option (ElR e.roots):=
 (ZrB s.F e.roots).runK s.H [] fun r _=>bif r.2.ok fz&&ZdB r.2.br fz&&Zou s.F e.fns&&ZnW s.F e.als then some r.1 else none
def Znk (b:AS) (fz:List Nat) (e:Zgt) (x:ElR e.roots):AS:=
 let r:=Zej e.roots x b.nx
 ⟨Zlz (Zmc (fun k=>bif ZdG k e.kept then b.F k else Zjg r.1 k) e.fns) e.als,fun id=>bif ZdG id (Zau b e) then b.H id else Zdl r.2.1 id,r.2.2,fz⟩
def ZmU (s:AS) (k:Nat×Nat×Nat):Option Nat:=match s.F k.1 with
 | .ptr id []=>(match s.H id with
  |some (.var T (.agg c))=>(match c.nth k.2.1 with
   |some (.vw a)=>bif Nat.beq (Zp0 T k.2.1) k.2.2 then some a else none
   |_=>none)
  |_=>none)
 |_=>none
def ZsE (b s:AS):List (Nat×Nat×Nat)→Bool
 | []=>true
 |k::l=>(match ZmU b k,ZmU s k with
  |some x,some y=>Nat.beq x y
  |_,_=>false) &&ZsE b s l
def Zqd (b:AS) (fz:List Nat) (k:Nat×Nat×Nat) (s:AS):AS:=match ZmU b k,ZmU s k,s.F k.1 with
 |some a,some a2, .ptr id []=>(match s.H id,s.H a2,b.H a with
  |some (.var T (.agg c)),some (.vec t xs),some (.vec t0 _)=>bif t0==t&& !Nat.beq a2 id&& !Nat.beq a id&& !ZdG a fz&& !ZdG a2 fz&& !ZdG id fz then
    {s with H:=ZbI (ZbI (ZbI (ZbI s.H a2 none) id none) a (some (.vec t xs))) id (some (.var T (.agg (c.putNth k.2.1 (.vw a))))) } else s
  |_,_,_=>s)
 |_,_,_=>s
def Zq4 (b:AS) (fz:List Nat):List (Nat×Nat×Nat)→AS→AS
 | [],s=>s
 |k::l,s=>Zq4 b fz l (Zqd b fz k s)
def Zrq (b:AS):List Nat→(Nat→AV)→Nat→AV
 | [],F=>F
 |n::l,F=>Zrq b l (Zi6 F n (b.F n))
def Zgm (b:AS) (fz:List Nat) (e:Zgt) (s:AS):Option (ElR e.roots):=bif ZsE b s e.kf then Zo2 fz e s else none
def Zkm (b:AS) (fz:List Nat) (e:Zgt) (x:ElR e.roots):AS:=
 let s:=Zq4 b (Zau b e) e.kf (Znk b fz e x)
 ⟨Zrq b e.kv s.F,s.H,s.nx,fz⟩
abbrev Zgk:=List (Ex×Zgt)
@[reducible] def ZeL:Zgk→Type
 | []=>Empty
 | [e]=>ElR e.2.roots
 |e::f::l=>ElR e.2.roots ⊕ ZeL (f::l)
def Zeh (b:AS) (fz:List Nat): (J:Zgk)→Ex→AS→Option (ZeL J)
 | [],_,_=>none
 | [e],x,s=>bif x.beq e.1 then Zgm b fz e.2 s else none
 |e::f::l,x,s=>bif x.beq e.1 then(Zgm b fz e.2 s).bind fun y=>some (.inl y) else(Zeh b fz (f::l) x s).bind fun y=>some (.inr y)
def ZeQ {ρ:Type} (b:AS): (J:Zgk)→ZeL J→(Ex→AS→Option ρ)→Option ρ
 | [],_,_=>none
 | [e],y,k=>k e.1 (Zkm b b.fz e.2 y)
 |e::f::l,y,k=>match y with
  | .inl y=>k e.1 (Zkm b b.fz e.2 y)
  | .inr y=>ZeQ b (f::l) y k
def Zgt.slots (e:Zgt):List Nat:=e.roots.map Prod.fst++e.fns.map Prod.fst++e.kept
def Zcu (e:Zgt):Zgk→Bool
 | []=>true
 |f::l=>f.2.kept.all (fun n=>ZdG n e.kept) &&f.2.kv.all (fun n=>ZdG n e.kv) &&Zd4 f.2.slots&&Zcu e l
inductive ZaU where
 |leaf
 |seq (a b:ZaU)
 |cnd (J:Option (Zgt×Zgk)) (a b:ZaU)
 |lp (e:Zgt) (J:Zgk) (h:ZaU)
 |lpd (it:Nat) (e:Zgt) (J:Zgk) (h:ZaU)
 |reg (outs:List (Nat×Ty))
def ZaU.l:ZaU→ZaU
 | .seq a _=>a
 | .cnd _ a _=>a
 |_=> .leaf
def ZaU.r:ZaU→ZaU
 | .seq _ b=>b
 | .cnd _ _ b=>b
 |_=> .leaf
def ZaU.join:ZaU→Option (Zgt×Zgk)
 | .cnd J _ _=>J
 |_=>none
def ZaU.outs:ZaU→Option (List (Nat×Ty))
 | .reg l=>some l
 |_=>none
def Zfo (it:Nat) (s:AS):Nat:=match s.F it with
 | .ptr id []=>(match s.H id with
  |some (.rng _ _ rest _)=>bif rest.isEmpty then 1 else rest.length
  |_=>1)
 |_=>1
def ZjG (E:Env) (ops:Array Oper) (it i:Nat) (ρ:Type) (s:AS) (k:AS→Option ρ):Option ρ:=
 match ops.toList.zipIdx with
 | []=>none
 | (o,_)::l=>(match o.op,o.guard,o.dst with
  | .next (.tmp it') false,none,some d=>bif Nat.beq it' it&&Ze6 E (some d) then(match s.F it with
   | .ptr id []=>(match s.H id with
    |some (.rng kt vt rest _)=>bif ZdG id s.fz then none else
      bif rest.isEmpty then ZeM E ops s.nx s.fz ρ l (ZfK s.F (some d) (.tup (.cons (.d .bool false) .nil))) s.H [] fun F H _=>k ⟨F,H,s.nx+ops.size*ZaB,s.fz⟩
      else(rest[i]?).bind fun e=>ZeM E ops s.nx s.fz ρ l (ZfK s.F (some d) (.tup (.cons (.d .bool true) (.cons (.d kt e.1) (.cons (.d vt e.2) .nil)))))
       (ZbI s.H id (some (.rng kt vt (rest.eraseIdx i) (some e)))) [] fun F H _=>k ⟨F,H,s.nx+ops.size*ZaB,s.fz⟩
    |_=>none)
   |_=>none) else none
  |_,_,_=>none)
noncomputable def ZbG:Code→ZaU→Env→(ρ:Type)→AS→(Ex→AS→Option ρ)→Option ρ
 | .skip,_,_,_,s,k=>k .normal s
 | .label _,_,_,_,s,k=>k .normal s
 | .scope c,h,E,ρ,s,k=>ZbG c h E ρ s k
 | .region _ ops draw,h,E,ρ,s,k=>ZkX E ops draw h.outs ρ s (k .normal)
 | .seq a b,h,E,ρ,s,k=>ZbG a h.l E ρ s fun e s' =>match e with
  | .normal=>ZbG b h.r E ρ s' k
  |e=>k e s'
 | .cond c a b,h,E,ρ,s,k=>match aev s.F c with
  | .d .bool t=>(match h.join with
   |none=>bif t then ZbG a h.l E ρ s k else ZbG b h.r E ρ s k
   |some (e,J)=>bif Zd0 s e.kept&&Zcu e J then
     (let s1:AS:= {s with fz:=Zau s e}
      bif t then ZbG a h.l (Zbu E e) (ZeL J) s1 (Zeh s (Zau s e) J) else ZbG b h.r (Zbu E e) (ZeL J) s1 (Zeh s (Zau s e) J)).bind fun o=>ZeQ s J o k
    else none)
  |_=>none
 | .block id c,h,E,ρ,s,k=>ZbG c h E ρ s fun e s' =>match e with
  | .exit i=>bif Nat.beq i id then k .normal s' else k (.exit i) s'
  |e=>k e s'
 | .loop c,h,E,_,s,k=>match h with
  | .lp en J hb=>bif Zd0 s en.kept&&Zcu en J&&Zd4 en.slots then
    (Zgm s (Zau s en) en s).bind fun x=>(run (fun y=>ZbG c hb (Zbu E en) (ElR en.roots ⊕ ZeL J) (Zkm s (Zau s en) en y) fun e s' =>match e with
     | .normal=>(Zgm s (Zau s en) en s').bind fun z=>some (.inl z)
     |e=>(Zeh s (Zau s en) J e s').bind fun z=>some (.inr z)) x).bind fun o=>ZeQ s J o k
   else none
  | .lpd it en J hb=>(match c with
   | .seq (.region _ ops false) c2=>bif Zd0 s en.kept&&Zcu en J&&Zd4 en.slots then
     (Zgm s (Zau s en) en s).bind fun x=>drun (fun y=>Zfo it (Zkm s (Zau s en) en y)) (fun y i=>ZjG (Zbu E en) ops it i (ElR en.roots ⊕ ZeL J) (Zkm s (Zau s en) en y) fun s1=>ZbG c2 hb (Zbu E en) (ElR en.roots ⊕ ZeL J) s1 fun e s' =>match e with
      | .normal=>(Zgm s (Zau s en) en s').bind fun z=>some (.inl z)
      |e=>(Zeh s (Zau s en) J e s').bind fun z=>some (.inr z)) (fun o=>ZeQ s J o k) x
    else none
   |_=>none)
  |_=>none
 | .exit id,_,_,_,s,k=>k (.exit id) s
 | .ret,_,_,_,s,k=>k .ret s
 |_,_,_,_,_,_=>none
def AVs.toF:AVs→Nat→AV
 | .nil,_=>ZfZ
 | .cons v _,0=>v
 | .cons _ l,n+1=>l.toF n
mutual
def Pat.back:Pat→Bool
 | .own _ k=>k
 | .var _ _=>true
 | .map _ _=>true
 | .rows _ k=>k
 | .mrows _ _=>true
 | .bld _ _ k=>k
 | .agg l=>l.back
 | .fn _ l=>l.back
 |_=>false
def Zam.back:Zam→Bool
 | .nil=>false
 | .cons p l=>p.back||l.back
end
mutual
def ZrW: (p:Pat)→ElP p
 | .pd t=>Zbj t
 | .own _ _=>[]
 | .var _ p=>ZrW p
 | .ro t=>Zbj t
 | .map _ _=>[]
 | .rows _ _=>[]
 | .mrows _ _=>[]
 | .it _ _=>[]
 | .bld _ _ _=>[]
 | .agg l=>Zoo l
 | .fn _ l=>Zoo l
 | .nilr=>()
 | .nils=>()
 | .any=>()
def Zoo: (l:Zam)→ZdD l
 | .nil=>()
 | .cons p l=>(ZrW p,Zoo l)
end
mutual
def ZqV: (p:Pat)→Znp p
 | .own _ true=>[]
 | .own _ false=>()
 | .var _ p=>ZrW p
 | .map _ _=>[]
 | .rows _ true=>[]
 | .rows _ false=>()
 | .mrows _ _=>[]
 | .it _ _=>()
 | .bld _ _ true=>[]
 | .bld _ _ false=>()
 | .agg l=>ZkE l
 | .fn _ l=>ZkE l
 | .pd _=>()
 | .ro _=>()
 | .nilr=>()
 | .nils=>()
 | .any=>()
def ZkE: (l:Zam)→Zck l
 | .nil=>()
 | .cons p l=>(ZqV p,ZkE l)
end
def Zpd:Pat→AV→Bool
 | .pd t,v=>v.fits t
 | .own t _,v=>v.fits (.sl t)
 | .rows t _,v=>v.fits (.sl (.sl t))
 | .agg _,_=>true
 | .fn _ _,_=>true
 | .any,_=>false
 | .nils,v=>v.fits (.sl .unit)
 |_,v=>v.fits .ref
mutual
def Zco: (p:Pat)→AV→Acc (Znp p×Ids)
 | .own t true, .vw id=> .getH id fun
  |some (.vec t' xs)=> .opt (ZaO (.sl t') (.sl t) xs) fun y=> .ret (y,⟨[id],[]⟩)
  |_=> .fail
 | .own _ false,_=> .ret ((),Ids.none)
 | .var t p, .ptr id []=> .getH id fun
  |some (.var t' c)=>bif t' ==t&&p.fits t then(ext p c).bind fun r=> .ret (r.1,⟨id::r.2.tk,r.2.br⟩) else .fail
  |_=> .fail
 | .map kt vt, .mp id=> .getH id fun
  |some (.map k e m)=> .opt (ZaO (.sl (.prod k e)) (.sl (.prod kt vt)) m) fun y=> .ret (y,⟨[id],[]⟩)
  |_=> .fail
 | .rows t true, .vw id=> .getH id fun
  |some (.rows t' xs _ none)=> .opt (ZaO (.sl (.sl t')) (.sl (.sl t)) xs) fun y=> .ret (y,⟨[id],[]⟩)
  |_=> .fail
 | .rows _ false,_=> .ret ((),Ids.none)
 | .mrows kt t, .mp id=> .getH id fun
  |some (.mrows k t' m _ none)=> .opt (ZaO (.sl (.prod k (.sl t'))) (.sl (.prod kt (.sl t))) m) fun y=> .ret (y,⟨[id],[]⟩)
  |_=> .fail
 | .it _ _,_=> .ret ((),Ids.none)
 | .bld T e true, .ptr id []=> .getH id fun
  |some (.bld T' e' bs)=>bif Nat.beq T' T&&Nat.beq e' e then .ret (bs,⟨[id],[]⟩) else .fail
  |_=> .fail
 | .bld _ _ false,_=> .ret ((),Ids.none)
 | .agg l, .agg vs=>ZgB l vs
 | .fn f l, .fn f' vs=>bif Nat.beq f' f then ZgB l vs else .fail
 | .pd _,_=> .ret ((),Ids.none)
 | .ro _,_=> .ret ((),Ids.none)
 | .nilr,_=> .ret ((),Ids.none)
 | .nils,_=> .ret ((),Ids.none)
 | .any,_=> .ret ((),Ids.none)
 |_,_=> .fail
def ZgB: (l:Zam)→AVs→Acc (Zck l×Ids)
 | .nil, .nil=> .ret ((),Ids.none)
 | .cons p l, .cons v vs=>bif Zpd p v then(Zco p v).bind fun x=>(ZgB l vs).bind fun y=> .ret ((x.1,y.1),x.2.app y.2) else .fail
 |_,_=> .fail
end
def ZhO: (l:Zam)→AVs→Acc (Zck l×Ids)
 | .nil,_=> .ret ((),Ids.none)
 | .cons p l, .cons v vs=>bif p.back then(Zco p v).bind fun x=>(ZhO l vs).bind fun y=> .ret ((x.1,y.1),x.2.app y.2)
   else(ZhO l vs).bind fun y=> .ret ((ZqV p,y.1),y.2)
 |_,_=> .fail
def ZkU (E:Env) (s:AS):List ResultVar→Acc AVs
 | []=> .ret .nil
 | .tmp t::l=>(ZkU E s l).bind fun vs=> .ret (.cons (s.F t) vs)
 | .cell a T::l=> .opt (E.ty T) fun t=>(match s.F a with
  | .ptr id p=> .getH id fun
   |some (.var _ c)=>(ZgL c p).bind fun v=>bif v.fits t&&v.solid then(ZkU E s l).bind fun vs=> .ret (.cons v vs) else .fail
   |_=> .fail
  |_=> .fail)
def Zbl:Zam→Nat→List Nat
 | .nil,_=>[]
 | .cons p l,n=>(bif p.back then [n] else [])++Zbl l (n+1)
def Zam.len:Zam→Nat
 | .nil=>0
 | .cons _ l=>l.len+1
def Zg3 (F:Nat→AV):Zam→Nat→AVs
 | .nil,_=> .nil
 | .cons _ l,n=> .cons (F n) (Zg3 F l (n+1))
def Zpk (E:Env) (results:Array ResultVar) (args res:Zam) (fz:List Nat) (e:Ex) (s:AS):Option (Zck args×ZdD res):=
 match e with
 | .exit _=>none
 |_=>((ZkU E s results.toList).bind fun vs=>(ZeK res vs).bind fun r=>(ZhO args (Zg3 s.F args 0)).bind fun o=> .ret ((o.1,r.1),o.2.app r.2)).runK s.H [] fun r _=>
   bif r.2.ok fz&&ZdB r.2.br fz then some r.1 else none
def Zo5 (ks:List Nat) (av:AVs) (H0:AH) (s:AS):List (Nat×Nat×Nat)→Bool
 | []=>true
 |k::l=>(match av.nth k.1,s.F k.1 with
  |some (.ptr id []), .ptr id' []=>(match H0 id,s.H id' with
   |some (.var T (.agg c)),some (.var T' (.agg c'))=>(match c.nth k.2.1,c'.nth k.2.1 with
    |some (.vw a),some (.vw b)=>Nat.beq a b&&T' ==T&&Nat.beq (Zp0 T k.2.1) k.2.2&&ZdG k.1 ks
    |_,_=>false)
   |_,_=>false)
  |_,_=>false) &&Zo5 ks av H0 s l
noncomputable def Zaw (E:Env) (body:Code) (results:Array ResultVar) (h:ZaU) (args res:Zam) {α:Type} (pack:Zck args×ZdD res→α) (x:ZdD args) (kp:List (Nat×Nat×Nat):=[]):Option α:=
 let r:=Zc1 args x 0
 ZbG body h {E with ks:=Zbl args 0} α ⟨r.1.toF,Zdl r.2.1,r.2.2,[]⟩ fun e s=>
  (Zpk E results args res [] e s).bind fun y=>bif Zo5 (Zbl args 0) r.1 (Zdl r.2.1) s kp then some (pack y) else none
def mkE (tys:List (Nat×Ty)) (ms:List (Nat×Ty×Ty)) (pks:List (Nat×Nat)) (rws zxs:List Nat) (m:List (Nat×List Spec)) (nt:Nat) (bds:List (Nat×Nat):=[]):Env:=
 {ty:=fun n=>tys.lookup n,mty:=fun n=>ms.lookup n,pk:=fun n=>(pks.lookup n).getD 0,rw:=fun n=>rws.contains n,zx:=fun n=>zxs.contains n,bd:=fun n=>bds.lookup n,specs:=fun n=>(m.lookup n).getD [],nt:=nt,ks:=[] }
def Zal (f:Func):Code:=match f.body with
 |some b=>b
 |none=> .skip
end Tr
