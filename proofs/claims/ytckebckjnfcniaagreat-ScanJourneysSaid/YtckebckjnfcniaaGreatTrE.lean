/- The definitions of the abstract machine, the last part: states, regions, code, loops, functions. Conditions: none. -/
import Derived.Test.YtckebckjnfcniaaGreatTrD
namespace Tr
open Go
structure AS where
 F:Nat->AV
 H:AH
 nx:Nat
 fz:List Nat
def Zj1(F:Nat->AV)(n:Nat)(v:AV):Nat->AV:=fun k=>bif Nat.beq k n then v else F k
def Zgd(F:Nat->AV)(d:Option Nat)(v:AV):Nat->AV:=match d with
 |some n=>Zj1 F n v
 |none=>F
def Zgx:AV:= .tup .nil
def Zaf(H:AH):Zbm->AH
 | []=>H
 |p::l=>Zaf (ZbS H p.1 p.2) l
inductive Ex where
 |normal
 |exit (id:Nat)
 |ret
def Ex.beq:Ex->Ex->Bool
 | .normal, .normal=>true
 | .exit a, .exit b=>Nat.beq a b
 | .ret, .ret=>true
 |_,_=>false
def Ziw{σ τ:Type}(step:σ->Option (σ ⊕ τ)):Nat->σ->Option τ
 |0,_=>none
 |n+1,s=>match step s with
  |some (.inl s')=>Ziw step n s'
  |some (.inr r)=>some r
  |none=>none
open Classical in
noncomputable def run{σ τ:Type}(step:σ->Option (σ ⊕ τ))(s:σ):Option τ:=
 match Ziw step 100000 s with
 |some r=>some r
 |none=>if h: ∃r n,Ziw step n s=some r then some h.choose else none
def Zoo{σ τ ρ:Type}(cnt:σ->Nat)(step:σ->Nat->Option (σ ⊕ τ))(k:τ->Option ρ)(z:ρ):Nat->σ->Prop
 |0,_=>False
 |n+1,s=> ∀i,i<cnt s->(∃s',step s i=some (.inl s')/\Zoo cnt step k z n s')\/ ∃t,step s i=some (.inr t)/\k t=some z
def Zul{σ τ ρ:Type}(cnt:σ->Nat)(step:σ->Nat->Option (σ ⊕ τ))(k:τ->Option ρ):Nat->σ->Option ρ
 |0,_=>none
 |n+1,s=>bif Nat.ble (cnt s) 1 then(match step s 0 with
  |some (.inl s')=>Zul cnt step k n s'
  |some (.inr t)=>k t
  |none=>none) else none
open Classical in
noncomputable def drun{σ τ ρ:Type}(cnt:σ->Nat)(step:σ->Nat->Option (σ ⊕ τ))(k:τ->Option ρ)(s:σ):Option ρ:=
 match Zul cnt step k 1000 s with
 |some r=>some r
 |none=>if h: ∃z n,Zoo cnt step k z n s then some h.choose else none
structure Trc where
 i:Nat
 rd:List Nat
 wr:List Nat
def Zfr(E:Env):Option Nat->Bool
 |some d=>Nat.blt d E.nt&& !ZdN d E.ks
 |none=>true
def Zfa(E:Env)(ops:Array Oper)(base:Nat)(fz:List Nat)(ρ:Type):List (Oper×Nat)->(Nat->AV)->AH->List Trc->((Nat->AV)->AH->List Trc->Option ρ)->Option ρ
 | [],F,H,tr,k=>k F H tr
 | (o,i)::rest,F,H,tr,k=>
  let go:=fun(F:Nat->AV)=>bif Zfr E o.dst then
   (aop E (base+i*ZaG) o.op o.type (aev F)).runK H [] fun r rd=>
    bif ZdV (r.2.map Prod.fst) fz then
     Zfa E ops base fz ρ rest (Zgd F o.dst r.1) (Zaf H r.2) (⟨i,rd,r.2.map Prod.fst⟩::tr) k else none else none
  let skip:=fun(F:Nat->AV)=>bif Zfr E o.dst then Zfa E ops base fz ρ rest (Zgd F o.dst Zgx) H tr k else none
  match o.guard with
  |none=>go F
  |some (j,want)=>match (ops[j]?).bind (·.dst) with
   |none=>none
   |some g=>match F g with
    | .d .bool b=>bif b then(bif want then go (Zj1 F g (.d .bool true)) else skip (Zj1 F g (.d .bool true)))
      else(bif want then skip (Zj1 F g (.d .bool false)) else go (Zj1 F g (.d .bool false)))
    | .tup .nil=>skip F
    |_=>none
def Zhz:List Operand->List Nat
 | []=>[]
 | .tmp t::l=>t::Zhz l
 |_::l=>Zhz l
def ZeD(ops:Array Oper)(o:Oper):List Nat:=
 (match o.guard with
  |some (j,_)=>((ops[j]?).bind (·.dst)).toList
  |none=>[])++Zhz o.op.operands.toList
def ZeM(ops:Array Oper)(a b:Oper):Bool:=
 (match a.dst with
  |some d=> !ZdN d (ZeD ops b) && (match b.dst with|some e=> !Nat.beq d e|none=>true)
  |none=>true) &&
 (match b.dst with
  |some d=> !ZdN d (ZeD ops a)
  |none=>true)
def Zeb(i:Nat):List Trc->Option Trc
 | []=>none
 |t::l=>bif Nat.beq t.i i then some t else Zeb i l
def Znx(tr:List Trc)(i j:Nat):Bool:=
 match Zeb i tr,Zeb j tr with
 |some a,some b=>ZdV a.wr b.rd&&ZdV a.wr b.wr&&ZdV b.wr a.rd
 |_,_=>true
def Zsz(ops:Array Oper):List (Nat×Nat):=
 let b:=Region.before ops
 (List.range ops.size).flatMap fun j=>(List.range j).filterMap fun i=>if (b.getD j 0).testBit i then none else some (i,j)
def Ztq(ops:Array Oper):Bool:=(Zsz ops).all fun p=>match ops[p.1]?,ops[p.2]? with
 |some a,some b=>ZeM ops a b
 |_,_=>true
def Zmi(ops:Array Oper):Bool:=ops.toList.zipIdx.all fun p=>p.1.after.all fun e=> !Region.binds .any e||Nat.blt e.on p.2
def ZiB(ops:Array Oper)(tr:List Trc):Bool:=
 Zmi ops&&Ztq ops&& (tr.all (fun t=>t.wr.isEmpty) || (Zsz ops).all fun p=>Znx tr p.1 p.2)
@[reducible] def ElT:List (Nat×Ty)->Type
 | []=>Unit
 | [(_,t)]=>El t
 | (_,t)::p::l=>El t×ElT (p::l)
def Zui(F:Nat->AV): (l:List (Nat×Ty))->Option (ElT l)
 | []=>some ()
 | [(n,t)]=>(match F n with
  | .d t' x=>ZaU t' t x
  |_=>none)
 | (n,t)::p::l=>(match F n with
  | .d t' x=>(ZaU t' t x).bind fun y=>(Zui F (p::l)).bind fun z=>some (y,z)
  |_=>none)
def inT(F:Nat->AV): (l:List (Nat×Ty))->ElT l->Nat->AV
 | [],_=>F
 | [(n,t)],x=>Zj1 F n (.d t x)
 | (n,t)::p::l,x=>inT (Zj1 F n (.d t x.1)) (p::l) x.2
def Ztl(l:List Nat)(F:Nat->AV):Nat->AV:=fun k=>bif ZdN k l then .junk else F k
def ZnO(ops:List Oper):List Nat:=ops.filterMap (·.dst)
def Zmt(E:Env)(ops:Array Oper)(draw:Bool)(outs:Option (List (Nat×Ty)))(ρ:Type)(s:AS)(k:AS->Option ρ):Option ρ:=
 let nx:=s.nx+ops.size*ZaG
 match outs with
 |none=>Zfa E ops s.nx s.fz ρ ops.toList.zipIdx s.F s.H [] fun F H tr=>bif !draw||ZiB ops tr then k ⟨F,H,nx,s.fz⟩ else none
 |some l=>(Zfa E ops s.nx s.fz (ElT l) ops.toList.zipIdx s.F s.H [] fun F _ tr=>bif (!draw||ZiB ops tr) &&tr.all (fun t=>t.wr.isEmpty) then Zui F l else none).bind
   fun x=>k ⟨inT (Ztl (ZnO ops.toList) s.F) l x,s.H,nx,s.fz⟩
structure Zhb where
 roots:List (Nat×Pat)
 fns:List (Nat×FuncId×List Nat):=[]
 kept:List Nat:=[]
 als:List (Nat×Nat):=[]
 kf:List (Nat×Nat×Nat):=[]
 kv:List Nat:=[]
@[reducible] def ElR:List (Nat×Pat)->Type
 | []=>Unit
 | [(_,p)]=>ElP p
 | (_,p)::q::l=>ElP p×ElR (q::l)
def ZtB(F:Nat->AV): (l:List (Nat×Pat))->Acc (ElR l×Ids)
 | []=> .ret ((),Ids.none)
 | [(n,p)]=>ext p (F n)
 | (n,p)::q::l=>(ext p (F n)).bind fun x=>(ZtB F (q::l)).bind fun y=> .ret ((x.1,y.1),x.2.app y.2)
def ZeG: (l:List (Nat×Pat))->ElR l->Nat->List (Nat×AV) ×List (Nat×ZdX) ×Nat
 | [],_,n=>([],[],n)
 | [(m,p)],x,n=>let r:=inj p x n;([(m,r.1)],r.2.1,r.2.2)
 | (m,p)::q::l,x,n=>let r:=inj p x.1 n;let s:=ZeG (q::l) x.2 r.2.2;((m,r.1)::s.1,r.2.1++s.2.1,s.2.2)
def Zlm:List (Nat×AV)->Nat->AV
 | [],_=> .junk
 |p::l,k=>bif Nat.beq k p.1 then p.2 else Zlm l k
def ZdC:List (Nat×ZdX)->AH
 | [],_=>none
 |p::l,k=>bif Nat.beq k p.1 then some p.2 else ZdC l k
def AV.box? :AV->Option Nat
 | .ptr id []=>some id
 |_=>none
def Zec(F:Nat->AV):AVs->List Nat->Bool
 | .nil,[]=>true
 | .cons v l,n::m=>(match v.box?,(F n).box? with
  |some a,some b=>Nat.beq a b
  |_,_=>false) &&Zec F l m
 |_,_=>false
def Zrh(F:Nat->AV):List (Nat×FuncId×List Nat)->Bool
 | []=>true
 | (n,f,l)::m=>(match F n with
  | .fn f' caps=>Nat.beq f' f&&Zec F caps l
  |_=>false) &&Zrh F m
def ZmJ(F:Nat->AV):List (Nat×FuncId×List Nat)->Nat->AV
 | []=>F
 | (n,f,l)::m=>Zj1 (ZmJ F m) n (.fn f (AVs.ofList (l.map F)))
def ZqV(x y:AV):Bool:=match x,y with
 | .vw a, .vw b=>Nat.beq a b
 | .mp a, .mp b=>Nat.beq a b
 | .ptr a [], .ptr b []=>Nat.beq a b
 | .nils, .nils=>true
 |_,_=>false
def ZpJ(F:Nat->AV):List (Nat×Nat)->Bool
 | []=>true
 |p::l=>ZqV (F p.1) (F p.2) &&ZpJ F l
def Zne(F:Nat->AV):List (Nat×Nat)->Nat->AV
 | []=>F
 |p::l=>Zj1 (Zne F l) p.1 (F p.2)
def AV.boxes:AVs->List Nat
 | .nil=>[]
 | .cons v l=>v.box?.toList++AV.boxes l
def Zc5(s:AS):List Nat->List Nat
 | []=>[]
 |n::l=>(match s.F n with
  | .ptr id []=>[id]
  | .vw id=>[id]
  | .nw id _ _ _=>[id]
  | .mp id=>[id]
  | .fn _ caps=>AV.boxes caps
  |_=>[])++Zc5 s l
def Zj2(H:AH)(id:Nat):Bool:=match H id with
 |some (.var _ (.d _ _))=>true
 |some (.vec _ _)=>true
 |some (.map _ _ _)=>true
 |some (.rows _ _ _ none)=>true
 |some (.mrows _ _ _ _ none)=>true
 |some (.rng _ _ _ _)=>true
 |some (.dat _ _)=>true
 |some (.bld _ _ _)=>true
 |_=>false
def ZnN(H:AH):AVs->Bool
 | .nil=>true
 | .cons v l=>(match v with
  | .ptr id []=>Zj2 H id
  | .dp _ _=>true
  | .d _ _=>true
  |_=>false) &&ZnN H l
def Zem(s:AS):List Nat->Bool
 | []=>true
 |n::l=>(match s.F n with
  | .d _ _=>true
  | .dp _ _=>true
  | .nilr=>true
  | .nils=>true
  | .ptr id []=>Zj2 s.H id
  | .vw id=>Zj2 s.H id
  | .nw id _ _ _=>Zj2 s.H id
  | .mp id=>Zj2 s.H id
  | .fn _ caps=>ZnN s.H caps
  |_=>false) &&Zem s l
def ZaC(b:AS)(e:Zhb):List Nat:=Zc5 b e.kept++b.fz
def ZbC(E:Env)(e:Zhb):Env:= {E with ks:=e.kept++(e.kv++E.ks) }
def Zpx(fz:List Nat)(e:Zhb)(s:AS):Option (ElR e.roots):=
 (ZtB s.F e.roots).runK s.H [] fun r _=>bif r.2.ok fz&&ZdV r.2.br fz&&Zrh s.F e.fns&&ZpJ s.F e.als then some r.1 else none
def Zom(b:AS)(fz:List Nat)(e:Zhb)(x:ElR e.roots):AS:=
 let r:=ZeG e.roots x b.nx
 ⟨Zne (ZmJ (fun k=>bif ZdN k e.kept then b.F k else Zlm r.1 k) e.fns) e.als,fun id=>bif ZdN id (ZaC b e) then b.H id else ZdC r.2.1 id,r.2.2,fz⟩
def ZoG(s:AS)(k:Nat×Nat×Nat):Option Nat:=match s.F k.1 with
 | .ptr id []=>(match s.H id with
  |some (.var T (.agg c))=>(match c.nth k.2.1 with
   |some (.vw a)=>bif Nat.beq (Zsv T k.2.1) k.2.2 then some a else none
   |_=>none)
  |_=>none)
 |_=>none
def Zur(b s:AS):List (Nat×Nat×Nat)->Bool
 | []=>true
 |k::l=>(match ZoG b k,ZoG s k with
  |some x,some y=>Nat.beq x y
  |_,_=>false) &&Zur b s l
def Zr1(b:AS)(fz:List Nat)(k:Nat×Nat×Nat)(s:AS):AS:=match ZoG b k,ZoG s k,s.F k.1 with
 |some a,some a2, .ptr id []=>(match s.H id,s.H a2,b.H a with
  |some (.var T (.agg c)),some (.vec t xs),some (.vec t0 _)=>bif t0==t&& !Nat.beq a2 id&& !Nat.beq a id&& !ZdN a fz&& !ZdN a2 fz&& !ZdN id fz then
    {s with H:=ZbS (ZbS (ZbS (ZbS s.H a2 none) id none) a (some (.vec t xs))) id (some (.var T (.agg (c.putNth k.2.1 (.vw a))))) } else s
  |_,_,_=>s)
 |_,_,_=>s
def Zs8(b:AS)(fz:List Nat):List (Nat×Nat×Nat)->AS->AS
 | [],s=>s
 |k::l,s=>Zs8 b fz l (Zr1 b fz k s)
def Zt2(b:AS):List Nat->(Nat->AV)->Nat->AV
 | [],F=>F
 |n::l,F=>Zt2 b l (Zj1 F n (b.F n))
def ZgW(b:AS)(fz:List Nat)(e:Zhb)(s:AS):Option (ElR e.roots):=bif Zur b s e.kf then Zpx fz e s else none
def Zls(b:AS)(fz:List Nat)(e:Zhb)(x:ElR e.roots):AS:=
 let s:=Zs8 b (ZaC b e) e.kf (Zom b fz e x)
 ⟨Zt2 b e.kv s.F,s.H,s.nx,fz⟩
abbrev ZgR:=List (Ex×Zhb)
@[reducible] def Zfc:ZgR->Type
 | []=>Empty
 | [e]=>ElR e.2.roots
 |e::f::l=>ElR e.2.roots ⊕ Zfc (f::l)
def ZeC(b:AS)(fz:List Nat): (J:ZgR)->Ex->AS->Option (Zfc J)
 | [],_,_=>none
 | [e],x,s=>bif x.beq e.1 then ZgW b fz e.2 s else none
 |e::f::l,x,s=>bif x.beq e.1 then(ZgW b fz e.2 s).bind fun y=>some (.inl y) else(ZeC b fz (f::l) x s).bind fun y=>some (.inr y)
def Zfg{ρ:Type}(b:AS): (J:ZgR)->Zfc J->(Ex->AS->Option ρ)->Option ρ
 | [],_,_=>none
 | [e],y,k=>k e.1 (Zls b b.fz e.2 y)
 |e::f::l,y,k=>match y with
  | .inl y=>k e.1 (Zls b b.fz e.2 y)
  | .inr y=>Zfg b (f::l) y k
def Zhb.slots(e:Zhb):List Nat:=e.roots.map Prod.fst++e.fns.map Prod.fst++e.kept
def ZcC(e:Zhb):ZgR->Bool
 | []=>true
 |f::l=>f.2.kept.all (fun n=>ZdN n e.kept) &&f.2.kv.all (fun n=>ZdN n e.kv) &&Zeo f.2.slots&&ZcC e l
inductive ZaT where
 |leaf
 |seq (a b:ZaT)
 |cnd (J:Option (Zhb×ZgR)) (a b:ZaT)
 |lp (e:Zhb) (J:ZgR) (h:ZaT)
 |lpd (it:Nat) (e:Zhb) (J:ZgR) (h:ZaT)
 |reg (outs:List (Nat×Ty))
def ZaT.l:ZaT->ZaT
 | .seq a _=>a
 | .cnd _ a _=>a
 |_=> .leaf
def ZaT.r:ZaT->ZaT
 | .seq _ b=>b
 | .cnd _ _ b=>b
 |_=> .leaf
def ZaT.join:ZaT->Option (Zhb×ZgR)
 | .cnd J _ _=>J
 |_=>none
def ZaT.outs:ZaT->Option (List (Nat×Ty))
 | .reg l=>some l
 |_=>none
def ZfG(it:Nat)(s:AS):Nat:=match s.F it with
 | .ptr id []=>(match s.H id with
  |some (.rng _ _ rest _)=>bif rest.isEmpty then 1 else rest.length
  |_=>1)
 |_=>1
def Zka(E:Env)(ops:Array Oper)(it i:Nat)(ρ:Type)(s:AS)(k:AS->Option ρ):Option ρ:=
 match ops.toList.zipIdx with
 | []=>none
 | (o,_)::l=>(match o.op,o.guard,o.dst with
  | .next (.tmp it') false,none,some d=>bif Nat.beq it' it&&Zfr E (some d) then(match s.F it with
   | .ptr id []=>(match s.H id with
    |some (.rng kt vt rest _)=>bif ZdN id s.fz then none else
      bif rest.isEmpty then Zfa E ops s.nx s.fz ρ l (Zgd s.F (some d) (.tup (.cons (.d .bool false) .nil))) s.H [] fun F H _=>k ⟨F,H,s.nx+ops.size*ZaG,s.fz⟩
      else(rest[i]?).bind fun e=>Zfa E ops s.nx s.fz ρ l (Zgd s.F (some d) (.tup (.cons (.d .bool true) (.cons (.d kt e.1) (.cons (.d vt e.2) .nil)))))
       (ZbS s.H id (some (.rng kt vt (rest.eraseIdx i) (some e)))) [] fun F H _=>k ⟨F,H,s.nx+ops.size*ZaG,s.fz⟩
    |_=>none)
   |_=>none) else none
  |_,_,_=>none)
noncomputable def ZbP:Code->ZaT->Env->(ρ:Type)->AS->(Ex->AS->Option ρ)->Option ρ
 | .skip,_,_,_,s,k=>k .normal s
 | .label _,_,_,_,s,k=>k .normal s
 | .scope c,h,E,ρ,s,k=>ZbP c h E ρ s k
 | .region _ ops draw,h,E,ρ,s,k=>Zmt E ops draw h.outs ρ s (k .normal)
 | .seq a b,h,E,ρ,s,k=>ZbP a h.l E ρ s fun e s' =>match e with
  | .normal=>ZbP b h.r E ρ s' k
  |e=>k e s'
 | .cond c a b,h,E,ρ,s,k=>match aev s.F c with
  | .d .bool t=>(match h.join with
   |none=>bif t then ZbP a h.l E ρ s k else ZbP b h.r E ρ s k
   |some (e,J)=>bif Zem s e.kept&&ZcC e J then
     (let s1:AS:= {s with fz:=ZaC s e}
      bif t then ZbP a h.l (ZbC E e) (Zfc J) s1 (ZeC s (ZaC s e) J) else ZbP b h.r (ZbC E e) (Zfc J) s1 (ZeC s (ZaC s e) J)).bind fun o=>Zfg s J o k
    else none)
  |_=>none
 | .block id c,h,E,ρ,s,k=>ZbP c h E ρ s fun e s' =>match e with
  | .exit i=>bif Nat.beq i id then k .normal s' else k (.exit i) s'
  |e=>k e s'
 | .loop c,h,E,_,s,k=>match h with
  | .lp en J hb=>bif Zem s en.kept&&ZcC en J&&Zeo en.slots then
    (ZgW s (ZaC s en) en s).bind fun x=>(run (fun y=>ZbP c hb (ZbC E en) (ElR en.roots ⊕ Zfc J) (Zls s (ZaC s en) en y) fun e s' =>match e with
     | .normal=>(ZgW s (ZaC s en) en s').bind fun z=>some (.inl z)
     |e=>(ZeC s (ZaC s en) J e s').bind fun z=>some (.inr z)) x).bind fun o=>Zfg s J o k
   else none
  | .lpd it en J hb=>(match c with
   | .seq (.region _ ops false) c2=>bif Zem s en.kept&&ZcC en J&&Zeo en.slots then
     (ZgW s (ZaC s en) en s).bind fun x=>drun (fun y=>ZfG it (Zls s (ZaC s en) en y)) (fun y i=>Zka (ZbC E en) ops it i (ElR en.roots ⊕ Zfc J) (Zls s (ZaC s en) en y) fun s1=>ZbP c2 hb (ZbC E en) (ElR en.roots ⊕ Zfc J) s1 fun e s' =>match e with
      | .normal=>(ZgW s (ZaC s en) en s').bind fun z=>some (.inl z)
      |e=>(ZeC s (ZaC s en) J e s').bind fun z=>some (.inr z)) (fun o=>Zfg s J o k) x
    else none
   |_=>none)
  |_=>none
 | .exit id,_,_,_,s,k=>k (.exit id) s
 | .ret,_,_,_,s,k=>k .ret s
 |_,_,_,_,_,_=>none
def AVs.toF:AVs->Nat->AV
 | .nil,_=>Zgx
 | .cons v _,0=>v
 | .cons _ l,n+1=>l.toF n
mutual
def Pat.back:Pat->Bool
 | .own _ k=>k
 | .var _ _=>true
 | .map _ _=>true
 | .rows _ k=>k
 | .mrows _ _=>true
 | .bld _ _ k=>k
 | .agg l=>l.back
 | .fn _ l=>l.back
 |_=>false
def Zam.back:Zam->Bool
 | .nil=>false
 | .cons p l=>p.back||l.back
end
mutual
def Zt0: (p:Pat)->ElP p
 | .pd t=>Zbr t
 | .own _ _=>[]
 | .var _ p=>Zt0 p
 | .ro t=>Zbr t
 | .map _ _=>[]
 | .rows _ _=>[]
 | .mrows _ _=>[]
 | .it _ _=>[]
 | .bld _ _ _=>[]
 | .agg l=>Zqz l
 | .fn _ l=>Zqz l
 | .nilr=>()
 | .nils=>()
 | .any=>()
def Zqz: (l:Zam)->ZdD l
 | .nil=>()
 | .cons p l=>(Zt0 p,Zqz l)
end
mutual
def Zs2: (p:Pat)->ZoS p
 | .own _ true=>[]
 | .own _ false=>()
 | .var _ p=>Zt0 p
 | .map _ _=>[]
 | .rows _ true=>[]
 | .rows _ false=>()
 | .mrows _ _=>[]
 | .it _ _=>()
 | .bld _ _ true=>[]
 | .bld _ _ false=>()
 | .agg l=>ZlV l
 | .fn _ l=>ZlV l
 | .pd _=>()
 | .ro _=>()
 | .nilr=>()
 | .nils=>()
 | .any=>()
def ZlV: (l:Zam)->Zcx l
 | .nil=>()
 | .cons p l=>(Zs2 p,ZlV l)
end
def Zp7:Pat->AV->Bool
 | .pd t,v=>v.fits t
 | .own t _,v=>v.fits (.sl t)
 | .rows t _,v=>v.fits (.sl (.sl t))
 | .agg _,_=>true
 | .fn _ _,_=>true
 | .any,_=>false
 | .nils,v=>v.fits (.sl .unit)
 |_,v=>v.fits .ref
mutual
def Zcr: (p:Pat)->AV->Acc (ZoS p×Ids)
 | .own t true, .vw id=> .getH id fun
  |some (.vec t' xs)=> .opt (ZaU (.sl t') (.sl t) xs) fun y=> .ret (y,⟨[id],[]⟩)
  |_=> .fail
 | .own _ false,_=> .ret ((),Ids.none)
 | .var t p, .ptr id []=> .getH id fun
  |some (.var t' c)=>bif t' ==t&&p.fits t then(ext p c).bind fun r=> .ret (r.1,⟨id::r.2.tk,r.2.br⟩) else .fail
  |_=> .fail
 | .map kt vt, .mp id=> .getH id fun
  |some (.map k e m)=> .opt (ZaU (.sl (.prod k e)) (.sl (.prod kt vt)) m) fun y=> .ret (y,⟨[id],[]⟩)
  |_=> .fail
 | .rows t true, .vw id=> .getH id fun
  |some (.rows t' xs _ none)=> .opt (ZaU (.sl (.sl t')) (.sl (.sl t)) xs) fun y=> .ret (y,⟨[id],[]⟩)
  |_=> .fail
 | .rows _ false,_=> .ret ((),Ids.none)
 | .mrows kt t, .mp id=> .getH id fun
  |some (.mrows k t' m _ none)=> .opt (ZaU (.sl (.prod k (.sl t'))) (.sl (.prod kt (.sl t))) m) fun y=> .ret (y,⟨[id],[]⟩)
  |_=> .fail
 | .it _ _,_=> .ret ((),Ids.none)
 | .bld T e true, .ptr id []=> .getH id fun
  |some (.bld T' e' bs)=>bif Nat.beq T' T&&Nat.beq e' e then .ret (bs,⟨[id],[]⟩) else .fail
  |_=> .fail
 | .bld _ _ false,_=> .ret ((),Ids.none)
 | .agg l, .agg vs=>Zhy l vs
 | .fn f l, .fn f' vs=>bif Nat.beq f' f then Zhy l vs else .fail
 | .pd _,_=> .ret ((),Ids.none)
 | .ro _,_=> .ret ((),Ids.none)
 | .nilr,_=> .ret ((),Ids.none)
 | .nils,_=> .ret ((),Ids.none)
 | .any,_=> .ret ((),Ids.none)
 |_,_=> .fail
def Zhy: (l:Zam)->AVs->Acc (Zcx l×Ids)
 | .nil, .nil=> .ret ((),Ids.none)
 | .cons p l, .cons v vs=>bif Zp7 p v then(Zcr p v).bind fun x=>(Zhy l vs).bind fun y=> .ret ((x.1,y.1),x.2.app y.2) else .fail
 |_,_=> .fail
end
def ZiP: (l:Zam)->AVs->Acc (Zcx l×Ids)
 | .nil,_=> .ret ((),Ids.none)
 | .cons p l, .cons v vs=>bif p.back then(Zcr p v).bind fun x=>(ZiP l vs).bind fun y=> .ret ((x.1,y.1),x.2.app y.2)
   else(ZiP l vs).bind fun y=> .ret ((Zs2 p,y.1),y.2)
 |_,_=> .fail
def Zmx(E:Env)(s:AS):List ResultVar->Acc AVs
 | []=> .ret .nil
 | .tmp t::l=>(Zmx E s l).bind fun vs=> .ret (.cons (s.F t) vs)
 | .cell a T::l=> .opt (E.ty T) fun t=>(match s.F a with
  | .ptr id p=> .getH id fun
   |some (.var _ c)=>(Zhh c p).bind fun v=>bif v.fits t&&v.solid then(Zmx E s l).bind fun vs=> .ret (.cons v vs) else .fail
   |_=> .fail
  |_=> .fail)
def Zbv:Zam->Nat->List Nat
 | .nil,_=>[]
 | .cons p l,n=>(bif p.back then [n] else [])++Zbv l (n+1)
def Zam.len:Zam->Nat
 | .nil=>0
 | .cons _ l=>l.len+1
def Zh0(F:Nat->AV):Zam->Nat->AVs
 | .nil,_=> .nil
 | .cons _ l,n=> .cons (F n) (Zh0 F l (n+1))
def ZpO(E:Env)(results:Array ResultVar)(args res:Zam)(fz:List Nat)(e:Ex)(s:AS):Option (Zcx args×ZdD res):=
 match e with
 | .exit _=>none
 |_=>((Zmx E s results.toList).bind fun vs=>(Zfe res vs).bind fun r=>(ZiP args (Zh0 s.F args 0)).bind fun o=> .ret ((o.1,r.1),o.2.app r.2)).runK s.H [] fun r _=>
   bif r.2.ok fz&&ZdV r.2.br fz then some r.1 else none
def Zqb(ks:List Nat)(av:AVs)(H0:AH)(s:AS):List (Nat×Nat×Nat)->Bool
 | []=>true
 |k::l=>(match av.nth k.1,s.F k.1 with
  |some (.ptr id []), .ptr id' []=>(match H0 id,s.H id' with
   |some (.var T (.agg c)),some (.var T' (.agg c'))=>(match c.nth k.2.1,c'.nth k.2.1 with
    |some (.vw a),some (.vw b)=>Nat.beq a b&&T' ==T&&Nat.beq (Zsv T k.2.1) k.2.2&&ZdN k.1 ks
    |_,_=>false)
   |_,_=>false)
  |_,_=>false) &&Zqb ks av H0 s l
noncomputable def Zau(E:Env)(body:Code)(results:Array ResultVar)(h:ZaT)(args res:Zam){α:Type}(pack:Zcx args×ZdD res->α)(x:ZdD args)(kp:List (Nat×Nat×Nat):=[]):Option α:=
 let r:=ZcY args x 0
 ZbP body h {E with ks:=Zbv args 0} α ⟨r.1.toF,ZdC r.2.1,r.2.2,[]⟩ fun e s=>
  (ZpO E results args res [] e s).bind fun y=>bif Zqb (Zbv args 0) r.1 (ZdC r.2.1) s kp then some (pack y) else none
def mkE(tys:List (Nat×Ty))(ms:List (Nat×Ty×Ty))(pks:List (Nat×Nat))(rws zxs:List Nat)(m:List (Nat×List Spec))(nt:Nat)(bds:List (Nat×Nat):=[]):Env:=
 {ty:=fun n=>tys.lookup n,mty:=fun n=>ms.lookup n,pk:=fun n=>(pks.lookup n).getD 0,rw:=fun n=>rws.contains n,zx:=fun n=>zxs.contains n,bd:=fun n=>bds.lookup n,specs:=fun n=>(m.lookup n).getD [],nt:=nt,ks:=[] }
def Zai(f:Func):Code:=match f.body with
 |some b=>b
 |none=> .skip
end Tr
