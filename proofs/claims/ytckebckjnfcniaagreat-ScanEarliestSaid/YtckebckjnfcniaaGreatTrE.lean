/- The definitions of the abstract machine, the last part: states, regions, code, loops, functions. Conditions: none. -/
import Derived.Test.YtckebckjnfcniaaGreatTrD
namespace Tr
open Go
structure AS where
 F:Nat->AV
 H:AH
 nx:Nat
 fz:List Nat
def Zkc(F:Nat->AV)(n:Nat)(v:AV):Nat->AV:=fun k=>bif Nat.beq k n then v else F k
def Zgr(F:Nat->AV)(d:Option Nat)(v:AV):Nat->AV:=match d with
 |some n=>Zkc F n v
 |none=>F
def Zgt:AV:= .tup .nil
def Zae(H:AH):Zbn->AH
 | []=>H
 |p::l=>Zae (ZbS H p.1 p.2) l
inductive Ex where
 |normal
 |exit (id:Nat)
 |ret
def Ex.beq:Ex->Ex->Bool
 | .normal, .normal=>true
 | .exit a, .exit b=>Nat.beq a b
 | .ret, .ret=>true
 |_,_=>false
def Zio{σ τ:Type}(step:σ->Option (σ ⊕ τ)):Nat->σ->Option τ
 |0,_=>none
 |n+1,s=>match step s with
  |some (.inl s')=>Zio step n s'
  |some (.inr r)=>some r
  |none=>none
open Classical in
noncomputable def run{σ τ:Type}(step:σ->Option (σ ⊕ τ))(s:σ):Option τ:=
 match Zio step 100000 s with
 |some r=>some r
 |none=>if h: ∃r n,Zio step n s=some r then some h.choose else none
def Zoo{σ τ ρ:Type}(cnt:σ->Nat)(step:σ->Nat->Option (σ ⊕ τ))(k:τ->Option ρ)(z:ρ):Nat->σ->Prop
 |0,_=>False
 |n+1,s=> ∀i,i<cnt s->(∃s',step s i=some (.inl s')/\Zoo cnt step k z n s')\/ ∃t,step s i=some (.inr t)/\k t=some z
def Zu9{σ τ ρ:Type}(cnt:σ->Nat)(step:σ->Nat->Option (σ ⊕ τ))(k:τ->Option ρ):Nat->σ->Option ρ
 |0,_=>none
 |n+1,s=>bif Nat.ble (cnt s) 1 then(match step s 0 with
  |some (.inl s')=>Zu9 cnt step k n s'
  |some (.inr t)=>k t
  |none=>none) else none
open Classical in
noncomputable def drun{σ τ ρ:Type}(cnt:σ->Nat)(step:σ->Nat->Option (σ ⊕ τ))(k:τ->Option ρ)(s:σ):Option ρ:=
 match Zu9 cnt step k 1000 s with
 |some r=>some r
 |none=>if h: ∃z n,Zoo cnt step k z n s then some h.choose else none
structure Trc where
 i:Nat
 rd:List Nat
 wr:List Nat
def ZfI(E:Env):Option Nat->Bool
 |some d=>Nat.blt d E.nt&& !Zd3 d E.ks
 |none=>true
def Zfn(E:Env)(ops:Array Oper)(base:Nat)(fz:List Nat)(ρ:Type):List (Oper×Nat)->(Nat->AV)->AH->List Trc->((Nat->AV)->AH->List Trc->Option ρ)->Option ρ
 | [],F,H,tr,k=>k F H tr
 | (o,i)::rest,F,H,tr,k=>
  let go:=fun(F:Nat->AV)=>bif ZfI E o.dst then
   (aop E (base+i*ZaH) o.op o.type (aev F)).runK H [] fun r rd=>
    bif ZdK (r.2.map Prod.fst) fz then
     Zfn E ops base fz ρ rest (Zgr F o.dst r.1) (Zae H r.2) (⟨i,rd,r.2.map Prod.fst⟩::tr) k else none else none
  let skip:=fun(F:Nat->AV)=>bif ZfI E o.dst then Zfn E ops base fz ρ rest (Zgr F o.dst Zgt) H tr k else none
  match o.guard with
  |none=>go F
  |some (j,want)=>match (ops[j]?).bind (·.dst) with
   |none=>none
   |some g=>match F g with
    | .d .bool b=>bif b then(bif want then go (Zkc F g (.d .bool true)) else skip (Zkc F g (.d .bool true)))
      else(bif want then skip (Zkc F g (.d .bool false)) else go (Zkc F g (.d .bool false)))
    | .tup .nil=>skip F
    |_=>none
def Zhv:List Operand->List Nat
 | []=>[]
 | .tmp t::l=>t::Zhv l
 |_::l=>Zhv l
def ZeL(ops:Array Oper)(o:Oper):List Nat:=
 (match o.guard with
  |some (j,_)=>((ops[j]?).bind (·.dst)).toList
  |none=>[])++Zhv o.op.operands.toList
def ZeQ(ops:Array Oper)(a b:Oper):Bool:=
 (match a.dst with
  |some d=> !Zd3 d (ZeL ops b) && (match b.dst with|some e=> !Nat.beq d e|none=>true)
  |none=>true) &&
 (match b.dst with
  |some d=> !Zd3 d (ZeL ops a)
  |none=>true)
def Zeo(i:Nat):List Trc->Option Trc
 | []=>none
 |t::l=>bif Nat.beq t.i i then some t else Zeo i l
def Zna(tr:List Trc)(i j:Nat):Bool:=
 match Zeo i tr,Zeo j tr with
 |some a,some b=>ZdK a.wr b.rd&&ZdK a.wr b.wr&&ZdK b.wr a.rd
 |_,_=>true
def ZrR(ops:Array Oper):List (Nat×Nat):=
 let b:=Region.before ops
 (List.range ops.size).flatMap fun j=>(List.range j).filterMap fun i=>if (b.getD j 0).testBit i then none else some (i,j)
def Zuc(ops:Array Oper):Bool:=(ZrR ops).all fun p=>match ops[p.1]?,ops[p.2]? with
 |some a,some b=>ZeQ ops a b
 |_,_=>true
def Zmr(ops:Array Oper):Bool:=ops.toList.zipIdx.all fun p=>p.1.after.all fun e=> !Region.binds .any e||Nat.blt e.on p.2
def Zjb(ops:Array Oper)(tr:List Trc):Bool:=
 Zmr ops&&Zuc ops&& (tr.all (fun t=>t.wr.isEmpty) || (ZrR ops).all fun p=>Zna tr p.1 p.2)
@[reducible] def ElT:List (Nat×Ty)->Type
 | []=>Unit
 | [(_,t)]=>El t
 | (_,t)::p::l=>El t×ElT (p::l)
def Zur(F:Nat->AV): (l:List (Nat×Ty))->Option (ElT l)
 | []=>some ()
 | [(n,t)]=>(match F n with
  | .d t' x=>ZaR t' t x
  |_=>none)
 | (n,t)::p::l=>(match F n with
  | .d t' x=>(ZaR t' t x).bind fun y=>(Zur F (p::l)).bind fun z=>some (y,z)
  |_=>none)
def inT(F:Nat->AV): (l:List (Nat×Ty))->ElT l->Nat->AV
 | [],_=>F
 | [(n,t)],x=>Zkc F n (.d t x)
 | (n,t)::p::l,x=>inT (Zkc F n (.d t x.1)) (p::l) x.2
def Ztp(l:List Nat)(F:Nat->AV):Nat->AV:=fun k=>bif Zd3 k l then .junk else F k
def ZnA(ops:List Oper):List Nat:=ops.filterMap (·.dst)
def ZlG(E:Env)(ops:Array Oper)(draw:Bool)(outs:Option (List (Nat×Ty)))(ρ:Type)(s:AS)(k:AS->Option ρ):Option ρ:=
 let nx:=s.nx+ops.size*ZaH
 match outs with
 |none=>Zfn E ops s.nx s.fz ρ ops.toList.zipIdx s.F s.H [] fun F H tr=>bif !draw||Zjb ops tr then k ⟨F,H,nx,s.fz⟩ else none
 |some l=>(Zfn E ops s.nx s.fz (ElT l) ops.toList.zipIdx s.F s.H [] fun F _ tr=>bif (!draw||Zjb ops tr) &&tr.all (fun t=>t.wr.isEmpty) then Zur F l else none).bind
   fun x=>k ⟨inT (Ztp (ZnA ops.toList) s.F) l x,s.H,nx,s.fz⟩
structure Zhi where
 roots:List (Nat×Pat)
 fns:List (Nat×FuncId×List Nat):=[]
 kept:List Nat:=[]
 als:List (Nat×Nat):=[]
 kf:List (Nat×Nat×Nat):=[]
 kv:List Nat:=[]
@[reducible] def ElR:List (Nat×Pat)->Type
 | []=>Unit
 | [(_,p)]=>ElP p
 | (_,p)::q::l=>ElP p×ElR (q::l)
def ZtE(F:Nat->AV): (l:List (Nat×Pat))->Acc (ElR l×Ids)
 | []=> .ret ((),Ids.none)
 | [(n,p)]=>ext p (F n)
 | (n,p)::q::l=>(ext p (F n)).bind fun x=>(ZtE F (q::l)).bind fun y=> .ret ((x.1,y.1),x.2.app y.2)
def ZeA: (l:List (Nat×Pat))->ElR l->Nat->List (Nat×AV) ×List (Nat×Zd7) ×Nat
 | [],_,n=>([],[],n)
 | [(m,p)],x,n=>let r:=inj p x n;([(m,r.1)],r.2.1,r.2.2)
 | (m,p)::q::l,x,n=>let r:=inj p x.1 n;let s:=ZeA (q::l) x.2 r.2.2;((m,r.1)::s.1,r.2.1++s.2.1,s.2.2)
def Zk0:List (Nat×AV)->Nat->AV
 | [],_=> .junk
 |p::l,k=>bif Nat.beq k p.1 then p.2 else Zk0 l k
def Zdz:List (Nat×Zd7)->AH
 | [],_=>none
 |p::l,k=>bif Nat.beq k p.1 then some p.2 else Zdz l k
def AV.box? :AV->Option Nat
 | .ptr id []=>some id
 |_=>none
def Zec(F:Nat->AV):AVs->List Nat->Bool
 | .nil,[]=>true
 | .cons v l,n::m=>(match v.box?,(F n).box? with
  |some a,some b=>Nat.beq a b
  |_,_=>false) &&Zec F l m
 |_,_=>false
def Zqv(F:Nat->AV):List (Nat×FuncId×List Nat)->Bool
 | []=>true
 | (n,f,l)::m=>(match F n with
  | .fn f' caps=>Nat.beq f' f&&Zec F caps l
  |_=>false) &&Zqv F m
def Znv(F:Nat->AV):List (Nat×FuncId×List Nat)->Nat->AV
 | []=>F
 | (n,f,l)::m=>Zkc (Znv F m) n (.fn f (AVs.ofList (l.map F)))
def ZpL(x y:AV):Bool:=match x,y with
 | .vw a, .vw b=>Nat.beq a b
 | .mp a, .mp b=>Nat.beq a b
 | .ptr a [], .ptr b []=>Nat.beq a b
 | .nils, .nils=>true
 |_,_=>false
def Zpg(F:Nat->AV):List (Nat×Nat)->Bool
 | []=>true
 |p::l=>ZpL (F p.1) (F p.2) &&Zpg F l
def Znq(F:Nat->AV):List (Nat×Nat)->Nat->AV
 | []=>F
 |p::l=>Zkc (Znq F l) p.1 (F p.2)
def AV.boxes:AVs->List Nat
 | .nil=>[]
 | .cons v l=>v.box?.toList++AV.boxes l
def Zc6(s:AS):List Nat->List Nat
 | []=>[]
 |n::l=>(match s.F n with
  | .ptr id []=>[id]
  | .vw id=>[id]
  | .nw id _ _ _=>[id]
  | .mp id=>[id]
  | .fn _ caps=>AV.boxes caps
  |_=>[])++Zc6 s l
def Zkg(H:AH)(id:Nat):Bool:=match H id with
 |some (.var _ (.d _ _))=>true
 |some (.vec _ _)=>true
 |some (.map _ _ _)=>true
 |some (.rows _ _ _ none)=>true
 |some (.mrows _ _ _ _ none)=>true
 |some (.rng _ _ _ _)=>true
 |some (.dat _ _)=>true
 |some (.bld _ _ _)=>true
 |_=>false
def ZmU(H:AH):AVs->Bool
 | .nil=>true
 | .cons v l=>(match v with
  | .ptr id []=>Zkg H id
  | .dp _ _=>true
  | .d _ _=>true
  |_=>false) &&ZmU H l
def Zer(s:AS):List Nat->Bool
 | []=>true
 |n::l=>(match s.F n with
  | .d _ _=>true
  | .dp _ _=>true
  | .nilr=>true
  | .nils=>true
  | .ptr id []=>Zkg s.H id
  | .vw id=>Zkg s.H id
  | .nw id _ _ _=>Zkg s.H id
  | .mp id=>Zkg s.H id
  | .fn _ caps=>ZmU s.H caps
  |_=>false) &&Zer s l
def ZaD(b:AS)(e:Zhi):List Nat:=Zc6 b e.kept++b.fz
def ZbE(E:Env)(e:Zhi):Env:= {E with ks:=e.kept++(e.kv++E.ks) }
def Zq3(fz:List Nat)(e:Zhi)(s:AS):Option (ElR e.roots):=
 (ZtE s.F e.roots).runK s.H [] fun r _=>bif r.2.ok fz&&ZdK r.2.br fz&&Zqv s.F e.fns&&Zpg s.F e.als then some r.1 else none
def ZoU(b:AS)(fz:List Nat)(e:Zhi)(x:ElR e.roots):AS:=
 let r:=ZeA e.roots x b.nx
 ⟨Znq (Znv (fun k=>bif Zd3 k e.kept then b.F k else Zk0 r.1 k) e.fns) e.als,fun id=>bif Zd3 id (ZaD b e) then b.H id else Zdz r.2.1 id,r.2.2,fz⟩
def ZnZ(s:AS)(k:Nat×Nat×Nat):Option Nat:=match s.F k.1 with
 | .ptr id []=>(match s.H id with
  |some (.var T (.agg c))=>(match c.nth k.2.1 with
   |some (.vw a)=>bif Nat.beq (Zsq T k.2.1) k.2.2 then some a else none
   |_=>none)
  |_=>none)
 |_=>none
def ZuE(b s:AS):List (Nat×Nat×Nat)->Bool
 | []=>true
 |k::l=>(match ZnZ b k,ZnZ s k with
  |some x,some y=>Nat.beq x y
  |_,_=>false) &&ZuE b s l
def Zr1(b:AS)(fz:List Nat)(k:Nat×Nat×Nat)(s:AS):AS:=match ZnZ b k,ZnZ s k,s.F k.1 with
 |some a,some a2, .ptr id []=>(match s.H id,s.H a2,b.H a with
  |some (.var T (.agg c)),some (.vec t xs),some (.vec t0 _)=>bif t0==t&& !Nat.beq a2 id&& !Nat.beq a id&& !Zd3 a fz&& !Zd3 a2 fz&& !Zd3 id fz then
    {s with H:=ZbS (ZbS (ZbS (ZbS s.H a2 none) id none) a (some (.vec t xs))) id (some (.var T (.agg (c.putNth k.2.1 (.vw a))))) } else s
  |_,_,_=>s)
 |_,_,_=>s
def ZsY(b:AS)(fz:List Nat):List (Nat×Nat×Nat)->AS->AS
 | [],s=>s
 |k::l,s=>ZsY b fz l (Zr1 b fz k s)
def Zt3(b:AS):List Nat->(Nat->AV)->Nat->AV
 | [],F=>F
 |n::l,F=>Zt3 b l (Zkc F n (b.F n))
def Zg1(b:AS)(fz:List Nat)(e:Zhi)(s:AS):Option (ElR e.roots):=bif ZuE b s e.kf then Zq3 fz e s else none
def ZlB(b:AS)(fz:List Nat)(e:Zhi)(x:ElR e.roots):AS:=
 let s:=ZsY b (ZaD b e) e.kf (ZoU b fz e x)
 ⟨Zt3 b e.kv s.F,s.H,s.nx,fz⟩
abbrev Zg6:=List (Ex×Zhi)
@[reducible] def Zfr:Zg6->Type
 | []=>Empty
 | [e]=>ElR e.2.roots
 |e::f::l=>ElR e.2.roots ⊕ Zfr (f::l)
def Zez(b:AS)(fz:List Nat): (J:Zg6)->Ex->AS->Option (Zfr J)
 | [],_,_=>none
 | [e],x,s=>bif x.beq e.1 then Zg1 b fz e.2 s else none
 |e::f::l,x,s=>bif x.beq e.1 then(Zg1 b fz e.2 s).bind fun y=>some (.inl y) else(Zez b fz (f::l) x s).bind fun y=>some (.inr y)
def Zfv{ρ:Type}(b:AS): (J:Zg6)->Zfr J->(Ex->AS->Option ρ)->Option ρ
 | [],_,_=>none
 | [e],y,k=>k e.1 (ZlB b b.fz e.2 y)
 |e::f::l,y,k=>match y with
  | .inl y=>k e.1 (ZlB b b.fz e.2 y)
  | .inr y=>Zfv b (f::l) y k
def Zhi.slots(e:Zhi):List Nat:=e.roots.map Prod.fst++e.fns.map Prod.fst++e.kept
def ZcG(e:Zhi):Zg6->Bool
 | []=>true
 |f::l=>f.2.kept.all (fun n=>Zd3 n e.kept) &&f.2.kv.all (fun n=>Zd3 n e.kv) &&Zev f.2.slots&&ZcG e l
inductive ZaU where
 |leaf
 |seq (a b:ZaU)
 |cnd (J:Option (Zhi×Zg6)) (a b:ZaU)
 |lp (e:Zhi) (J:Zg6) (h:ZaU)
 |lpd (it:Nat) (e:Zhi) (J:Zg6) (h:ZaU)
 |reg (outs:List (Nat×Ty))
def ZaU.l:ZaU->ZaU
 | .seq a _=>a
 | .cnd _ a _=>a
 |_=> .leaf
def ZaU.r:ZaU->ZaU
 | .seq _ b=>b
 | .cnd _ _ b=>b
 |_=> .leaf
def ZaU.join:ZaU->Option (Zhi×Zg6)
 | .cnd J _ _=>J
 |_=>none
def ZaU.outs:ZaU->Option (List (Nat×Ty))
 | .reg l=>some l
 |_=>none
def ZfZ(it:Nat)(s:AS):Nat:=match s.F it with
 | .ptr id []=>(match s.H id with
  |some (.rng _ _ rest _)=>bif rest.isEmpty then 1 else rest.length
  |_=>1)
 |_=>1
def ZkM(E:Env)(ops:Array Oper)(it i:Nat)(ρ:Type)(s:AS)(k:AS->Option ρ):Option ρ:=
 match ops.toList.zipIdx with
 | []=>none
 | (o,_)::l=>(match o.op,o.guard,o.dst with
  | .next (.tmp it') false,none,some d=>bif Nat.beq it' it&&ZfI E (some d) then(match s.F it with
   | .ptr id []=>(match s.H id with
    |some (.rng kt vt rest _)=>bif Zd3 id s.fz then none else
      bif rest.isEmpty then Zfn E ops s.nx s.fz ρ l (Zgr s.F (some d) (.tup (.cons (.d .bool false) .nil))) s.H [] fun F H _=>k ⟨F,H,s.nx+ops.size*ZaH,s.fz⟩
      else(rest[i]?).bind fun e=>Zfn E ops s.nx s.fz ρ l (Zgr s.F (some d) (.tup (.cons (.d .bool true) (.cons (.d kt e.1) (.cons (.d vt e.2) .nil)))))
       (ZbS s.H id (some (.rng kt vt (rest.eraseIdx i) (some e)))) [] fun F H _=>k ⟨F,H,s.nx+ops.size*ZaH,s.fz⟩
    |_=>none)
   |_=>none) else none
  |_,_,_=>none)
noncomputable def ZbQ:Code->ZaU->Env->(ρ:Type)->AS->(Ex->AS->Option ρ)->Option ρ
 | .skip,_,_,_,s,k=>k .normal s
 | .label _,_,_,_,s,k=>k .normal s
 | .scope c,h,E,ρ,s,k=>ZbQ c h E ρ s k
 | .region _ ops draw,h,E,ρ,s,k=>ZlG E ops draw h.outs ρ s (k .normal)
 | .seq a b,h,E,ρ,s,k=>ZbQ a h.l E ρ s fun e s' =>match e with
  | .normal=>ZbQ b h.r E ρ s' k
  |e=>k e s'
 | .cond c a b,h,E,ρ,s,k=>match aev s.F c with
  | .d .bool t=>(match h.join with
   |none=>bif t then ZbQ a h.l E ρ s k else ZbQ b h.r E ρ s k
   |some (e,J)=>bif Zer s e.kept&&ZcG e J then
     (let s1:AS:= {s with fz:=ZaD s e}
      bif t then ZbQ a h.l (ZbE E e) (Zfr J) s1 (Zez s (ZaD s e) J) else ZbQ b h.r (ZbE E e) (Zfr J) s1 (Zez s (ZaD s e) J)).bind fun o=>Zfv s J o k
    else none)
  |_=>none
 | .block id c,h,E,ρ,s,k=>ZbQ c h E ρ s fun e s' =>match e with
  | .exit i=>bif Nat.beq i id then k .normal s' else k (.exit i) s'
  |e=>k e s'
 | .loop c,h,E,_,s,k=>match h with
  | .lp en J hb=>bif Zer s en.kept&&ZcG en J&&Zev en.slots then
    (Zg1 s (ZaD s en) en s).bind fun x=>(run (fun y=>ZbQ c hb (ZbE E en) (ElR en.roots ⊕ Zfr J) (ZlB s (ZaD s en) en y) fun e s' =>match e with
     | .normal=>(Zg1 s (ZaD s en) en s').bind fun z=>some (.inl z)
     |e=>(Zez s (ZaD s en) J e s').bind fun z=>some (.inr z)) x).bind fun o=>Zfv s J o k
   else none
  | .lpd it en J hb=>(match c with
   | .seq (.region _ ops false) c2=>bif Zer s en.kept&&ZcG en J&&Zev en.slots then
     (Zg1 s (ZaD s en) en s).bind fun x=>drun (fun y=>ZfZ it (ZlB s (ZaD s en) en y)) (fun y i=>ZkM (ZbE E en) ops it i (ElR en.roots ⊕ Zfr J) (ZlB s (ZaD s en) en y) fun s1=>ZbQ c2 hb (ZbE E en) (ElR en.roots ⊕ Zfr J) s1 fun e s' =>match e with
      | .normal=>(Zg1 s (ZaD s en) en s').bind fun z=>some (.inl z)
      |e=>(Zez s (ZaD s en) J e s').bind fun z=>some (.inr z)) (fun o=>Zfv s J o k) x
    else none
   |_=>none)
  |_=>none
 | .exit id,_,_,_,s,k=>k (.exit id) s
 | .ret,_,_,_,s,k=>k .ret s
 |_,_,_,_,_,_=>none
def AVs.toF:AVs->Nat->AV
 | .nil,_=>Zgt
 | .cons v _,0=>v
 | .cons _ l,n+1=>l.toF n
mutual
def Pat.back:Pat->Bool
 | .own _ k=>k
 | .var _ _=>true
 | .map _ _=>true
 | .rows _ k=>k
 | .mrows _ _=>true
 | .bld _ _ k=>k
 | .agg l=>l.back
 | .fn _ l=>l.back
 |_=>false
def Zal.back:Zal->Bool
 | .nil=>false
 | .cons p l=>p.back||l.back
end
mutual
def Zum: (p:Pat)->ElP p
 | .pd t=>Zbr t
 | .own _ _=>[]
 | .var _ p=>Zum p
 | .ro t=>Zbr t
 | .map _ _=>[]
 | .rows _ _=>[]
 | .mrows _ _=>[]
 | .it _ _=>[]
 | .bld _ _ _=>[]
 | .agg l=>Zpd l
 | .fn _ l=>Zpd l
 | .nilr=>()
 | .nils=>()
 | .any=>()
def Zpd: (l:Zal)->ZdV l
 | .nil=>()
 | .cons p l=>(Zum p,Zpd l)
end
mutual
def ZsQ: (p:Pat)->Zo3 p
 | .own _ true=>[]
 | .own _ false=>()
 | .var _ p=>Zum p
 | .map _ _=>[]
 | .rows _ true=>[]
 | .rows _ false=>()
 | .mrows _ _=>[]
 | .it _ _=>()
 | .bld _ _ true=>[]
 | .bld _ _ false=>()
 | .agg l=>Zmo l
 | .fn _ l=>Zmo l
 | .pd _=>()
 | .ro _=>()
 | .nilr=>()
 | .nils=>()
 | .any=>()
def Zmo: (l:Zal)->Zcy l
 | .nil=>()
 | .cons p l=>(ZsQ p,Zmo l)
end
def Zqs:Pat->AV->Bool
 | .pd t,v=>v.fits t
 | .own t _,v=>v.fits (.sl t)
 | .rows t _,v=>v.fits (.sl (.sl t))
 | .agg _,_=>true
 | .fn _ _,_=>true
 | .any,_=>false
 | .nils,v=>v.fits (.sl .unit)
 |_,v=>v.fits .ref
mutual
def Zcx: (p:Pat)->AV->Acc (Zo3 p×Ids)
 | .own t true, .vw id=> .getH id fun
  |some (.vec t' xs)=> .opt (ZaR (.sl t') (.sl t) xs) fun y=> .ret (y,⟨[id],[]⟩)
  |_=> .fail
 | .own _ false,_=> .ret ((),Ids.none)
 | .var t p, .ptr id []=> .getH id fun
  |some (.var t' c)=>bif t' ==t&&p.fits t then(ext p c).bind fun r=> .ret (r.1,⟨id::r.2.tk,r.2.br⟩) else .fail
  |_=> .fail
 | .map kt vt, .mp id=> .getH id fun
  |some (.map k e m)=> .opt (ZaR (.sl (.prod k e)) (.sl (.prod kt vt)) m) fun y=> .ret (y,⟨[id],[]⟩)
  |_=> .fail
 | .rows t true, .vw id=> .getH id fun
  |some (.rows t' xs _ none)=> .opt (ZaR (.sl (.sl t')) (.sl (.sl t)) xs) fun y=> .ret (y,⟨[id],[]⟩)
  |_=> .fail
 | .rows _ false,_=> .ret ((),Ids.none)
 | .mrows kt t, .mp id=> .getH id fun
  |some (.mrows k t' m _ none)=> .opt (ZaR (.sl (.prod k (.sl t'))) (.sl (.prod kt (.sl t))) m) fun y=> .ret (y,⟨[id],[]⟩)
  |_=> .fail
 | .it _ _,_=> .ret ((),Ids.none)
 | .bld T e true, .ptr id []=> .getH id fun
  |some (.bld T' e' bs)=>bif Nat.beq T' T&&Nat.beq e' e then .ret (bs,⟨[id],[]⟩) else .fail
  |_=> .fail
 | .bld _ _ false,_=> .ret ((),Ids.none)
 | .agg l, .agg vs=>Zho l vs
 | .fn f l, .fn f' vs=>bif Nat.beq f' f then Zho l vs else .fail
 | .pd _,_=> .ret ((),Ids.none)
 | .ro _,_=> .ret ((),Ids.none)
 | .nilr,_=> .ret ((),Ids.none)
 | .nils,_=> .ret ((),Ids.none)
 | .any,_=> .ret ((),Ids.none)
 |_,_=> .fail
def Zho: (l:Zal)->AVs->Acc (Zcy l×Ids)
 | .nil, .nil=> .ret ((),Ids.none)
 | .cons p l, .cons v vs=>bif Zqs p v then(Zcx p v).bind fun x=>(Zho l vs).bind fun y=> .ret ((x.1,y.1),x.2.app y.2) else .fail
 |_,_=> .fail
end
def Zje: (l:Zal)->AVs->Acc (Zcy l×Ids)
 | .nil,_=> .ret ((),Ids.none)
 | .cons p l, .cons v vs=>bif p.back then(Zcx p v).bind fun x=>(Zje l vs).bind fun y=> .ret ((x.1,y.1),x.2.app y.2)
   else(Zje l vs).bind fun y=> .ret ((ZsQ p,y.1),y.2)
 |_,_=> .fail
def Zl9(E:Env)(s:AS):List ResultVar->Acc AVs
 | []=> .ret .nil
 | .tmp t::l=>(Zl9 E s l).bind fun vs=> .ret (.cons (s.F t) vs)
 | .cell a T::l=> .opt (E.ty T) fun t=>(match s.F a with
  | .ptr id p=> .getH id fun
   |some (.var _ c)=>(ZhL c p).bind fun v=>bif v.fits t&&v.solid then(Zl9 E s l).bind fun vs=> .ret (.cons v vs) else .fail
   |_=> .fail
  |_=> .fail)
def Zbt:Zal->Nat->List Nat
 | .nil,_=>[]
 | .cons p l,n=>(bif p.back then [n] else [])++Zbt l (n+1)
def Zal.len:Zal->Nat
 | .nil=>0
 | .cons _ l=>l.len+1
def Zie(F:Nat->AV):Zal->Nat->AVs
 | .nil,_=> .nil
 | .cons _ l,n=> .cons (F n) (Zie F l (n+1))
def Zpe(E:Env)(results:Array ResultVar)(args res:Zal)(fz:List Nat)(e:Ex)(s:AS):Option (Zcy args×ZdV res):=
 match e with
 | .exit _=>none
 |_=>((Zl9 E s results.toList).bind fun vs=>(Zfo res vs).bind fun r=>(Zje args (Zie s.F args 0)).bind fun o=> .ret ((o.1,r.1),o.2.app r.2)).runK s.H [] fun r _=>
   bif r.2.ok fz&&ZdK r.2.br fz then some r.1 else none
def Zph(ks:List Nat)(av:AVs)(H0:AH)(s:AS):List (Nat×Nat×Nat)->Bool
 | []=>true
 |k::l=>(match av.nth k.1,s.F k.1 with
  |some (.ptr id []), .ptr id' []=>(match H0 id,s.H id' with
   |some (.var T (.agg c)),some (.var T' (.agg c'))=>(match c.nth k.2.1,c'.nth k.2.1 with
    |some (.vw a),some (.vw b)=>Nat.beq a b&&T' ==T&&Nat.beq (Zsq T k.2.1) k.2.2&&Zd3 k.1 ks
    |_,_=>false)
   |_,_=>false)
  |_,_=>false) &&Zph ks av H0 s l
noncomputable def Zau(E:Env)(body:Code)(results:Array ResultVar)(h:ZaU)(args res:Zal){α:Type}(pack:Zcy args×ZdV res->α)(x:ZdV args)(kp:List (Nat×Nat×Nat):=[]):Option α:=
 let r:=ZcY args x 0
 ZbQ body h {E with ks:=Zbt args 0} α ⟨r.1.toF,Zdz r.2.1,r.2.2,[]⟩ fun e s=>
  (Zpe E results args res [] e s).bind fun y=>bif Zph (Zbt args 0) r.1 (Zdz r.2.1) s kp then some (pack y) else none
def mkE(tys:List (Nat×Ty))(ms:List (Nat×Ty×Ty))(pks:List (Nat×Nat))(rws zxs:List Nat)(m:List (Nat×List Spec))(nt:Nat)(bds:List (Nat×Nat):=[]):Env:=
 {ty:=fun n=>tys.lookup n,mty:=fun n=>ms.lookup n,pk:=fun n=>(pks.lookup n).getD 0,rw:=fun n=>rws.contains n,zx:=fun n=>zxs.contains n,bd:=fun n=>bds.lookup n,specs:=fun n=>(m.lookup n).getD [],nt:=nt,ks:=[] }
def Zah(f:Func):Code:=match f.body with
 |some b=>b
 |none=> .skip
end Tr
