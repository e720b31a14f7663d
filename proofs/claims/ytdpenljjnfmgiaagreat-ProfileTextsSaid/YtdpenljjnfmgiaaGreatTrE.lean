/- The definitions of the abstract machine, the last part: states, regions, code, loops, functions. Conditions: none. -/
import Derived.Test.YtdpenljjnfmgiaaGreatTrD
open Nat renaming beq ->Va
open Prod renaming fst ->Vb
namespace Tr
open Go
structure AS where
 F:Nat->AV
 H:AH
 nx:Nat
 fz:List Nat
def ZgN(F:Nat->AV)(n:Nat)(v:AV):Nat->AV:=fun k=>bif Va k n then v else F k
def ZdG(F:Nat->AV)(d:Option Nat)(v:AV):Nat->AV:=match d with
 |some n=>ZgN F n v
 |none=>F
def Zdu:AV:= .tup .nil
def Zad(H:AH):ZaN->AH
 | []=>H
 |p::l=>Zad (Za4 H p.1 p.2) l
inductive Ex where
 |normal
 |exit (id:Nat)
 |ret
 |jump (l:Nat)
def Ex.beq:Ex->Ex->Bool
 | .normal, .normal=>true
 | .exit a, .exit b=>Va a b
 | .ret, .ret=>true
 | .jump a, .jump b=>Va a b
 |_,_=>false
def Zfu{σ τ:Type}(step:σ->Option (σ ⊕ τ)):Nat->σ->Option τ
 |0,_=>none
 |n+1,s=>match step s with
  |some (.inl s')=>Zfu step n s'
  |some (.inr r)=>some r
  |none=>none
open Classical in
noncomputable def run{σ τ:Type}(step:σ->Option (σ ⊕ τ))(s:σ):Option τ:=
 match Zfu step 100000 s with
 |some r=>some r
 |none=>if h: ∃r n,Zfu step n s=some r then some h.choose else none
def Zm1{σ τ ρ:Type}(cnt:σ->Nat)(step:σ->Nat->Option (σ ⊕ τ))(k:τ->Option ρ)(z:ρ):Nat->σ->Prop
 |0,_=>False
 |n+1,s=> ∀i,i<cnt s->(∃s',step s i=some (.inl s')/\Zm1 cnt step k z n s')\/ ∃t,step s i=some (.inr t)/\k t=some z
def Zm9{σ τ ρ:Type}(cnt:σ->Nat)(step:σ->Nat->Option (σ ⊕ τ))(k:τ->Option ρ):Nat->σ->Option ρ
 |0,_=>none
 |n+1,s=>bif Nat.ble (cnt s) 1 then(match step s 0 with
  |some (.inl s')=>Zm9 cnt step k n s'
  |some (.inr t)=>k t
  |none=>none) else none
open Classical in
noncomputable def drun{σ τ ρ:Type}(cnt:σ->Nat)(step:σ->Nat->Option (σ ⊕ τ))(k:τ->Option ρ)(s:σ):Option ρ:=
 match Zm9 cnt step k 1000 s with
 |some r=>some r
 |none=>if h: ∃z n,Zm1 cnt step k z n s then some h.choose else none
structure Trc where
 i:Nat
 rd:List Nat
 wr:List Nat
def Zc3(E:Env):Option Nat->Bool
 |some d=>Nat.blt d E.nt&& !Zcw d E.ks
 |none=>true
def ZdD(E:Env)(ops:Array Oper)(base:Nat)(fz:List Nat)(ρ:Type):List (Oper×Nat)->(Nat->AV)->AH->List Trc->((Nat->AV)->AH->List Trc->Option ρ)->Option ρ
 | [],F,H,tr,k=>k F H tr
 | (o,i)::rest,F,H,tr,k=>
  let go:=fun(F:Nat->AV)=>bif Zc3 E o.dst then
   (aop E (base+i*E.stp) o.op o.type (aev F)).runK H [] fun r rd=>
    bif Zb8 (r.2.map Vb) fz then
     ZdD E ops base fz ρ rest (ZdG F o.dst r.1) (Zad H r.2) (⟨i,rd,r.2.map Vb⟩::tr) k else none else none
  let skip:=fun(F:Nat->AV)=>bif Zc3 E o.dst then ZdD E ops base fz ρ rest (ZdG F o.dst Zdu) H tr k else none
  match o.guard with
  |none=>go F
  |some (j,want)=>match (ops[j]?).bind (·.dst) with
   |none=>none
   |some g=>match F g with
    | .d .bool b=>bif b then(bif want then go (ZgN F g (.d .bool true)) else skip (ZgN F g (.d .bool true)))
      else(bif want then skip (ZgN F g (.d .bool false)) else go (ZgN F g (.d .bool false)))
    | .tup .nil=>skip F
    |_=>none
def ZeR:List Operand->List Nat
 | []=>[]
 | .tmp t::l=>t::ZeR l
 |_::l=>ZeR l
def Zc0(ops:Array Oper)(o:Oper):List Nat:=
 (match o.guard with
  |some (j,_)=>((ops[j]?).bind (·.dst)).toList
  |none=>[])++ZeR o.op.operands.toList
def Zdi(ops:Array Oper)(a b:Oper):Bool:=
 (match a.dst with
  |some d=> !Zcw d (Zc0 ops b) && (match b.dst with|some e=> !Va d e|none=>true)
  |none=>true) &&
 (match b.dst with
  |some d=> !Zcw d (Zc0 ops a)
  |none=>true)
def ZcV(i:Nat):List Trc->Option Trc
 | []=>none
 |t::l=>bif Va t.i i then some t else ZcV i l
def Ziy(tr:List Trc)(i j:Nat):Bool:=
 match ZcV i tr,ZcV j tr with
 |some a,some b=>Zb8 a.wr b.rd&&Zb8 a.wr b.wr&&Zb8 b.wr a.rd
 |_,_=>true
def ZlF(ops:Array Oper):List (Nat×Nat):=
 let b:=Region.before ops
 (List.range ops.size).flatMap fun j=>(List.range j).filterMap fun i=>if (b.getD j 0).testBit i then none else some (i,j)
def Zms(ops:Array Oper):Bool:=(ZlF ops).all fun p=>match ops[p.1]?,ops[p.2]? with
 |some a,some b=>Zdi ops a b
 |_,_=>true
def Zh5(ops:Array Oper):Bool:=ops.toList.zipIdx.all fun p=>p.1.after.all fun e=> !Region.binds .any e||Nat.blt e.on p.2
def ZeK(ops:Array Oper)(tr:List Trc):Bool:=
 Zh5 ops&&Zms ops&& (tr.all (fun t=>t.wr.isEmpty) || (ZlF ops).all fun p=>Ziy tr p.1 p.2)
@[reducible] def ElT:List (Nat×Ty)->Type
 | []=>Unit
 | [(_,t)]=>El t
 | (_,t)::p::l=>El t×ElT (p::l)
def Zm3(F:Nat->AV): (l:List (Nat×Ty))->Option (ElT l)
 | []=>some ()
 | [(n,t)]=>(match F n with
  | .d t' x=>Zax t' t x
  |_=>none)
 | (n,t)::p::l=>(match F n with
  | .d t' x=>(Zax t' t x).bind fun y=>(Zm3 F (p::l)).bind fun z=>some (y,z)
  |_=>none)
def inT(F:Nat->AV): (l:List (Nat×Ty))->ElT l->Nat->AV
 | [],_=>F
 | [(n,t)],x=>ZgN F n (.d t x)
 | (n,t)::p::l,x=>inT (ZgN F n (.d t x.1)) (p::l) x.2
def Zma(l:List Nat)(F:Nat->AV):Nat->AV:=fun k=>bif Zcw k l then .junk else F k
def ZiE(ops:List Oper):List Nat:=ops.filterMap (·.dst)
def Zh2(E:Env)(ops:Array Oper)(draw:Bool)(outs:Option (List (Nat×Ty)))(ρ:Type)(s:AS)(k:AS->Option ρ):Option ρ:=
 let nx:=s.nx+ops.size*E.stp
 match outs with
 |none=>ZdD E ops s.nx s.fz ρ ops.toList.zipIdx s.F s.H [] fun F H tr=>bif !draw||ZeK ops tr then k ⟨F,H,nx,s.fz⟩ else none
 |some l=>(ZdD E ops s.nx s.fz (ElT l) ops.toList.zipIdx s.F s.H [] fun F _ tr=>bif (!draw||ZeK ops tr) &&tr.all (fun t=>t.wr.isEmpty) then Zm3 F l else none).bind
   fun x=>k ⟨inT (Zma (ZiE ops.toList) s.F) l x,s.H,nx,s.fz⟩
structure Zez where
 roots:List (Nat×Pat)
 fns:List (Nat×FuncId×List Nat):=[]
 kept:List Nat:=[]
 als:List (Nat×Nat):=[]
 kf:List (Nat×Nat×Nat):=[]
 kv:List Nat:=[]
@[reducible] def ElR:List (Nat×Pat)->Type
 | []=>Unit
 | [(_,p)]=>ElP p
 | (_,p)::q::l=>ElP p×ElR (q::l)
def Zmt(F:Nat->AV): (l:List (Nat×Pat))->Acc (ElR l×Ids)
 | []=> .ret ((),Ids.none)
 | [(n,p)]=>ext p (F n)
 | (n,p)::q::l=>(ext p (F n)).bind fun x=>(Zmt F (q::l)).bind fun y=> .ret ((x.1,y.1),x.2.app y.2)
def Zdq: (l:List (Nat×Pat))->ElR l->Nat->List (Nat×AV) ×List (Nat×Zco) ×Nat
 | [],_,n=>([],[],n)
 | [(m,p)],x,n=>let r:=inj p x n;([(m,r.1)],r.2.1,r.2.2)
 | (m,p)::q::l,x,n=>let r:=inj p x.1 n;let s:=Zdq (q::l) x.2 r.2.2;((m,r.1)::s.1,r.2.1++s.2.1,s.2.2)
def Zg6:List (Nat×AV)->Nat->AV
 | [],_=> .junk
 |p::l,k=>bif Va k p.1 then p.2 else Zg6 l k
def ZcE:List (Nat×Zco)->AH
 | [],_=>none
 |p::l,k=>bif Va k p.1 then some p.2 else ZcE l k
def AV.box? :AV->Option Nat
 | .ptr id []=>some id
 |_=>none
def ZcA(F:Nat->AV):AVs->List Nat->Bool
 | .nil,[]=>true
 | .cons v l,n::m=>(match v.box?,(F n).box? with
  |some a,some b=>Va a b
  |_,_=>false) &&ZcA F l m
 |_,_=>false
def ZjY(F:Nat->AV):List (Nat×FuncId×List Nat)->Bool
 | []=>true
 | (n,f,l)::m=>(match F n with
  | .fn f' caps=>Va f' f&&ZcA F caps l
  |_=>false) &&ZjY F m
def ZiH(F:Nat->AV):List (Nat×FuncId×List Nat)->Nat->AV
 | []=>F
 | (n,f,l)::m=>ZgN (ZiH F m) n (.fn f (AVs.ofList (l.map F)))
def ZjV(x y:AV):Bool:=match x,y with
 | .vw a, .vw b=>Va a b
 | .mp a, .mp b=>Va a b
 | .ptr a [], .ptr b []=>Va a b
 | .nils, .nils=>true
 |_,_=>false
def Zk3(F:Nat->AV):List (Nat×Nat)->Bool
 | []=>true
 |p::l=>ZjV (F p.1) (F p.2) &&Zk3 F l
def Zim(F:Nat->AV):List (Nat×Nat)->Nat->AV
 | []=>F
 |p::l=>ZgN (Zim F l) p.1 (F p.2)
def AV.boxes:AVs->List Nat
 | .nil=>[]
 | .cons v l=>v.box?.toList++AV.boxes l
def ZbW(s:AS):List Nat->List Nat
 | []=>[]
 |n::l=>(match s.F n with
  | .ptr id []=>[id]
  | .vw id=>[id]
  | .nw id _ _ _=>[id]
  | .mp id=>[id]
  | .fn _ caps=>AV.boxes caps
  |_=>[])++ZbW s l
def ZgM(H:AH)(id:Nat):Bool:=match H id with
 |some (.var _ (.d _ _))=>true
 |some (.vec _ _)=>true
 |some (.map _ _ _)=>true
 |some (.rows _ _ _ none)=>true
 |some (.mrows _ _ _ _ none)=>true
 |some (.rng _ _ _ _)=>true
 |some (.dat _ _)=>true
 |some (.bld _ _ _)=>true
 |_=>false
def Ziz(H:AH):AVs->Bool
 | .nil=>true
 | .cons v l=>(match v with
  | .ptr id []=>ZgM H id
  | .dp _ _=>true
  | .d _ _=>true
  |_=>false) &&Ziz H l
def ZcS(s:AS):List Nat->Bool
 | []=>true
 |n::l=>(match s.F n with
  | .d _ _=>true
  | .dp _ _=>true
  | .nilr=>true
  | .nils=>true
  | .ptr id []=>ZgM s.H id
  | .vw id=>ZgM s.H id
  | .nw id _ _ _=>ZgM s.H id
  | .mp id=>ZgM s.H id
  | .fn _ caps=>Ziz s.H caps
  |_=>false) &&ZcS s l
def Zam(b:AS)(e:Zez):List Nat:=ZbW b e.kept++b.fz
def Za9(E:Env)(e:Zez):Env:= {E with ks:=e.kept++(e.kv++E.ks) }
def ZkP(fz:List Nat)(e:Zez)(s:AS):Option (ElR e.roots):=
 (Zmt s.F e.roots).runK s.H [] fun r _=>bif r.2.ok fz&&Zb8 r.2.br fz&&ZjY s.F e.fns&&Zk3 s.F e.als then some r.1 else none
def Zjm(b:AS)(fz:List Nat)(e:Zez)(x:ElR e.roots):AS:=
 let r:=Zdq e.roots x b.nx
 ⟨Zim (ZiH (fun k=>bif Zcw k e.kept then b.F k else Zg6 r.1 k) e.fns) e.als,fun id=>bif Zcw id (Zam b e) then b.H id else ZcE r.2.1 id,r.2.2,fz⟩
def Zjq(s:AS)(k:Nat×Nat×Nat):Option Nat:=match s.F k.1 with
 | .ptr id []=>(match s.H id with
  |some (.var T (.agg c))=>(match c.nth k.2.1 with
   |some (.vw a)=>bif Va (Zl5 T k.2.1) k.2.2 then some a else none
   |_=>none)
  |_=>none)
 |_=>none
def Znb(b s:AS):List (Nat×Nat×Nat)->Bool
 | []=>true
 |k::l=>(match Zjq b k,Zjq s k with
  |some x,some y=>Va x y
  |_,_=>false) &&Znb b s l
def Zls(b:AS)(fz:List Nat)(k:Nat×Nat×Nat)(s:AS):AS:=match Zjq b k,Zjq s k,s.F k.1 with
 |some a,some a2, .ptr id []=>(match s.H id,s.H a2,b.H a with
  |some (.var T (.agg c)),some (.vec t xs),some (.vec t0 _)=>bif t0==t&& !Va a2 id&& !Va a id&& !Zcw a fz&& !Zcw a2 fz&& !Zcw id fz then
    {s with H:=Za4 (Za4 (Za4 (Za4 s.H a2 none) id none) a (some (.vec t xs))) id (some (.var T (.agg (c.putNth k.2.1 (.vw a))))) } else s
  |_,_,_=>s)
 |_,_,_=>s
def ZlT(b:AS)(fz:List Nat):List (Nat×Nat×Nat)->AS->AS
 | [],s=>s
 |k::l,s=>ZlT b fz l (Zls b fz k s)
def ZmI(b:AS):List Nat->(Nat->AV)->Nat->AV
 | [],F=>F
 |n::l,F=>ZmI b l (ZgN F n (b.F n))
def Zes(b:AS)(fz:List Nat)(e:Zez)(s:AS):Option (ElR e.roots):=bif Znb b s e.kf then ZkP fz e s else none
def Zhw(b:AS)(fz:List Nat)(e:Zez)(x:ElR e.roots):AS:=
 let s:=ZlT b (Zam b e) e.kf (Zjm b fz e x)
 ⟨ZmI b e.kv s.F,s.H,s.nx,fz⟩
abbrev Zeu:=List (Ex×Zez)
@[reducible] def Zdk:Zeu->Type
 | []=>Empty
 | [e]=>ElR e.2.roots
 |e::f::l=>ElR e.2.roots ⊕ Zdk (f::l)
def Zdm(b:AS)(fz:List Nat): (J:Zeu)->Ex->AS->Option (Zdk J)
 | [],_,_=>none
 | [e],x,s=>bif x.beq e.1 then Zes b fz e.2 s else none
 |e::f::l,x,s=>bif x.beq e.1 then(Zes b fz e.2 s).bind fun y=>some (.inl y) else(Zdm b fz (f::l) x s).bind fun y=>some (.inr y)
def Zdo{ρ:Type}(b:AS): (J:Zeu)->Zdk J->(Ex->AS->Option ρ)->Option ρ
 | [],_,_=>none
 | [e],y,k=>k e.1 (Zhw b b.fz e.2 y)
 |e::f::l,y,k=>match y with
  | .inl y=>k e.1 (Zhw b b.fz e.2 y)
  | .inr y=>Zdo b (f::l) y k
def Zez.slots(e:Zez):List Nat:=e.roots.map Vb++e.fns.map Vb++e.kept
def ZbG(e:Zez):Zeu->Bool
 | []=>true
 |f::l=>f.2.kept.all (fun n=>Zcw n e.kept) &&f.2.kv.all (fun n=>Zcw n e.kv) &&Zcs f.2.slots&&ZbG e l
inductive ZeX where
 |leaf
 |seq (a b:ZeX)
 |cnd (J:Option (Zez×Zeu)) (a b:ZeX)
 |lp (e:Zez) (J:Zeu) (h:ZeX)
 |lpd (it:Nat) (e:Zez) (J:Zeu) (h:ZeX)
 |reg (outs:List (Nat×Ty))
 |all (n:Nat)
def ZeX.l:ZeX->ZeX
 | .seq a _=>a
 | .cnd _ a _=>a
 | .all n=> .all n
 |_=> .leaf
def ZeX.r:ZeX->ZeX
 | .seq _ b=>b
 | .cnd _ _ b=>b
 | .all n=> .all n
 |_=> .leaf
def ZeX.join:ZeX->Option (Zez×Zeu)
 | .cnd J _ _=>J
 |_=>none
def ZeX.outs:ZeX->Option (List (Nat×Ty))
 | .reg l=>some l
 |_=>none
def ZdW(it:Nat)(s:AS):Nat:=match s.F it with
 | .ptr id []=>(match s.H id with
  |some (.rng _ _ rest _)=>bif rest.isEmpty then 1 else rest.length
  |_=>1)
 |_=>1
def ZhU(E:Env)(ops:Array Oper)(it i:Nat)(ρ:Type)(s:AS)(k:AS->Option ρ):Option ρ:=
 match ops.toList.zipIdx with
 | []=>none
 | (o,_)::l=>(match o.op,o.guard,o.dst with
  | .next (.tmp it') false,none,some d=>bif Va it' it&&Zc3 E (some d) then(match s.F it with
   | .ptr id []=>(match s.H id with
    |some (.rng kt vt rest _)=>bif Zcw id s.fz then none else
      bif rest.isEmpty then ZdD E ops s.nx s.fz ρ l (ZdG s.F (some d) (.tup (.cons (.d .bool false) .nil))) s.H [] fun F H _=>k ⟨F,H,s.nx+ops.size*E.stp,s.fz⟩
      else(rest[i]?).bind fun e=>ZdD E ops s.nx s.fz ρ l (ZdG s.F (some d) (.tup (.cons (.d .bool true) (.cons (.d kt e.1) (.cons (.d vt e.2) .nil)))))
       (Za4 s.H id (some (.rng kt vt (rest.eraseIdx i) (some e)))) [] fun F H _=>k ⟨F,H,s.nx+ops.size*E.stp,s.fz⟩
    |_=>none)
   |_=>none) else none
  |_,_,_=>none)
def Znx{ρ:Type}(f:AS->(Ex->AS->Option ρ)->Option ρ)(k:Ex->AS->Option ρ):Nat->AS->Option ρ
 |0,_=>none
 |n+1,s=>f s fun e s' =>match e with
  | .normal=>Znx f k n s'
  |e=>k e s'
noncomputable def ZaZ:Code->ZeX->Env->(ρ:Type)->AS->(Ex->AS->Option ρ)->Option ρ
 | .skip,_,_,_,s,k=>k .normal s
 | .label _,_,_,_,s,k=>k .normal s
 | .scope c,h,E,ρ,s,k=>ZaZ c h E ρ s fun e s' =>match e with
  | .jump _=>none
  |e=>k e s'
 | .goto l,_,_,_,s,k=>k (.jump l) s
 | .region _ ops draw,h,E,ρ,s,k=>Zh2 E ops draw h.outs ρ s (k .normal)
 | .seq a b,h,E,ρ,s,k=>ZaZ a h.l E ρ s fun e s' =>match e with
  | .normal=>ZaZ b h.r E ρ s' k
  |e=>k e s'
 | .cond c a b,h,E,ρ,s,k=>match aev s.F c with
  | .d .bool t=>(match h.join with
   |none=>bif t then ZaZ a h.l E ρ s k else ZaZ b h.r E ρ s k
   |some (e,J)=>bif ZcS s e.kept&&ZbG e J then
     (let s1:AS:= {s with fz:=Zam s e}
      bif t then ZaZ a h.l (Za9 E e) (Zdk J) s1 (Zdm s (Zam s e) J) else ZaZ b h.r (Za9 E e) (Zdk J) s1 (Zdm s (Zam s e) J)).bind fun o=>Zdo s J o k
    else none)
  |_=>none
 | .block id c,h,E,ρ,s,k=>ZaZ c h E ρ s fun e s' =>match e with
  | .exit i=>bif Va i id then k .normal s' else k (.exit i) s'
  |e=>k e s'
 | .loop c,h,E,ρ,s,k=>match h with
  | .all n=>Znx (fun s k=>ZaZ c (.all n) E ρ s k) k n s
  | .lp en J hb=>bif ZcS s en.kept&&ZbG en J&&Zcs en.slots then
    (Zes s (Zam s en) en s).bind fun x=>(run (fun y=>ZaZ c hb (Za9 E en) (ElR en.roots ⊕ Zdk J) (Zhw s (Zam s en) en y) fun e s' =>match e with
     | .normal=>(Zes s (Zam s en) en s').bind fun z=>some (.inl z)
     |e=>(Zdm s (Zam s en) J e s').bind fun z=>some (.inr z)) x).bind fun o=>Zdo s J o k
   else none
  | .lpd it en J hb=>(match c with
   | .seq (.region _ ops false) c2=>bif ZcS s en.kept&&ZbG en J&&Zcs en.slots then
     (Zes s (Zam s en) en s).bind fun x=>drun (fun y=>ZdW it (Zhw s (Zam s en) en y)) (fun y i=>ZhU (Za9 E en) ops it i (ElR en.roots ⊕ Zdk J) (Zhw s (Zam s en) en y) fun s1=>ZaZ c2 hb (Za9 E en) (ElR en.roots ⊕ Zdk J) s1 fun e s' =>match e with
      | .normal=>(Zes s (Zam s en) en s').bind fun z=>some (.inl z)
      |e=>(Zdm s (Zam s en) J e s').bind fun z=>some (.inr z)) (fun o=>Zdo s J o k) x
    else none
   |_=>none)
  |_=>none
 | .exit id,_,_,_,s,k=>k (.exit id) s
 | .ret,_,_,_,s,k=>k .ret s
 |_,_,_,_,_,_=>none
def AVs.toF:AVs->Nat->AV
 | .nil,_=>Zdu
 | .cons v _,0=>v
 | .cons _ l,n+1=>l.toF n
mutual
def Pat.back:Pat->Bool
 | .own _ k=>k
 | .var _ _=>true
 | .map _ _=>true
 | .rows _ k=>k
 | .mrows _ _=>true
 | .bld _ _ k=>k
 | .agg l=>l.back
 | .fn _ l=>l.back
 |_=>false
def ZaP.back:ZaP->Bool
 | .nil=>false
 | .cons p l=>p.back||l.back
end
mutual
def Zmc: (p:Pat)->ElP p
 | .pd t=>zeroEl t
 | .own _ _=>[]
 | .var _ p=>Zmc p
 | .ro t=>zeroEl t
 | .map _ _=>[]
 | .rows _ _=>[]
 | .mrows _ _=>[]
 | .it _ _=>[]
 | .bld _ _ _=>[]
 | .agg l=>Zke l
 | .fn _ l=>Zke l
 | .nilr=>()
 | .nils=>()
 | .any=>()
def Zke: (l:ZaP)->Zce l
 | .nil=>()
 | .cons p l=>(Zmc p,Zke l)
end
mutual
def Zl0: (p:Pat)->Zjv p
 | .own _ true=>[]
 | .own _ false=>()
 | .var _ p=>Zmc p
 | .map _ _=>[]
 | .rows _ true=>[]
 | .rows _ false=>()
 | .mrows _ _=>[]
 | .it _ _=>()
 | .bld _ _ true=>[]
 | .bld _ _ false=>()
 | .agg l=>ZhD l
 | .fn _ l=>ZhD l
 | .pd _=>()
 | .ro _=>()
 | .nilr=>()
 | .nils=>()
 | .any=>()
def ZhD: (l:ZaP)->Zby l
 | .nil=>()
 | .cons p l=>(Zl0 p,ZhD l)
end
def Zko:Pat->AV->Bool
 | .pd t,v=>v.fits t
 | .own t _,v=>v.fits (.sl t)
 | .rows t _,v=>v.fits (.sl (.sl t))
 | .agg _,_=>true
 | .fn _ _,_=>true
 | .any,_=>false
 | .nils,v=>v.fits (.sl .unit)
 |_,v=>v.fits .ref
mutual
def Zb4: (p:Pat)->AV->Acc (Zjv p×Ids)
 | .own t true, .vw id=> .getH id fun
  |some (.vec t' xs)=> .opt (Zax (.sl t') (.sl t) xs) fun y=> .ret (y,⟨[id],[]⟩)
  |_=> .fail
 | .own _ false,_=> .ret ((),Ids.none)
 | .var t p, .ptr id []=> .getH id fun
  |some (.var t' c)=>bif t' ==t&&p.fits t then(ext p c).bind fun r=> .ret (r.1,⟨id::r.2.tk,r.2.br⟩) else .fail
  |_=> .fail
 | .map kt vt, .mp id=> .getH id fun
  |some (.map k e m)=> .opt (Zax (.sl (.prod k e)) (.sl (.prod kt vt)) m) fun y=> .ret (y,⟨[id],[]⟩)
  |_=> .fail
 | .rows t true, .vw id=> .getH id fun
  |some (.rows t' xs _ none)=> .opt (Zax (.sl (.sl t')) (.sl (.sl t)) xs) fun y=> .ret (y,⟨[id],[]⟩)
  |_=> .fail
 | .rows _ false,_=> .ret ((),Ids.none)
 | .mrows kt t, .mp id=> .getH id fun
  |some (.mrows k t' m _ none)=> .opt (Zax (.sl (.prod k (.sl t'))) (.sl (.prod kt (.sl t))) m) fun y=> .ret (y,⟨[id],[]⟩)
  |_=> .fail
 | .it _ _,_=> .ret ((),Ids.none)
 | .bld T e true, .ptr id []=> .getH id fun
  |some (.bld T' e' bs)=>bif Va T' T&&Va e' e then .ret (bs,⟨[id],[]⟩) else .fail
  |_=> .fail
 | .bld _ _ false,_=> .ret ((),Ids.none)
 | .agg l, .agg vs=>Ze3 l vs
 | .fn f l, .fn f' vs=>bif Va f' f then Ze3 l vs else .fail
 | .pd _,_=> .ret ((),Ids.none)
 | .ro _,_=> .ret ((),Ids.none)
 | .nilr,_=> .ret ((),Ids.none)
 | .nils,_=> .ret ((),Ids.none)
 | .any,_=> .ret ((),Ids.none)
 |_,_=> .fail
def Ze3: (l:ZaP)->AVs->Acc (Zby l×Ids)
 | .nil, .nil=> .ret ((),Ids.none)
 | .cons p l, .cons v vs=>bif Zko p v then(Zb4 p v).bind fun x=>(Ze3 l vs).bind fun y=> .ret ((x.1,y.1),x.2.app y.2) else .fail
 |_,_=> .fail
end
def ZfN: (l:ZaP)->AVs->Acc (Zby l×Ids)
 | .nil,_=> .ret ((),Ids.none)
 | .cons p l, .cons v vs=>bif p.back then(Zb4 p v).bind fun x=>(ZfN l vs).bind fun y=> .ret ((x.1,y.1),x.2.app y.2)
   else(ZfN l vs).bind fun y=> .ret ((Zl0 p,y.1),y.2)
 |_,_=> .fail
def ZdY(E:Env)(s:AS):List ResultVar->Acc AVs
 | []=> .ret .nil
 | .tmp t::l=>(ZdY E s l).bind fun vs=> .ret (.cons (s.F t) vs)
 | .cell a T::l=> .opt (E.ty T) fun t=>(match s.F a with
  | .ptr id p=> .getH id fun
   |some (.var _ c)=>(ZeG c p).bind fun v=>bif v.fits t&&v.solid then(ZdY E s l).bind fun vs=> .ret (.cons v vs) else .fail
   |_=> .fail
  |_=> .fail)
def Zbl:ZaP->Nat->List Nat
 | .nil,_=>[]
 | .cons p l,n=>(bif p.back then [n] else [])++Zbl l (n+1)
def ZaP.len:ZaP->Nat
 | .nil=>0
 | .cons _ l=>l.len+1
def ZeH(F:Nat->AV):ZaP->Nat->AVs
 | .nil,_=> .nil
 | .cons _ l,n=> .cons (F n) (ZeH F l (n+1))
def ZkO(E:Env)(results:Array ResultVar)(args res:ZaP)(fz:List Nat)(e:Ex)(s:AS):Option (Zby args×Zce res):=
 match e with
 | .exit _=>none
 | .jump _=>none
 |_=>((ZdY E s results.toList).bind fun vs=>(Zdl res vs).bind fun r=>(ZfN args (ZeH s.F args 0)).bind fun o=> .ret ((o.1,r.1),o.2.app r.2)).runK s.H [] fun r _=>
   bif r.2.ok fz&&Zb8 r.2.br fz then some r.1 else none
def Zk2(ks:List Nat)(av:AVs)(H0:AH)(s:AS):List (Nat×Nat×Nat)->Bool
 | []=>true
 |k::l=>(match av.nth k.1,s.F k.1 with
  |some (.ptr id []), .ptr id' []=>(match H0 id,s.H id' with
   |some (.var T (.agg c)),some (.var T' (.agg c'))=>(match c.nth k.2.1,c'.nth k.2.1 with
    |some (.vw a),some (.vw b)=>Va a b&&T' ==T&&Va (Zl5 T k.2.1) k.2.2&&Zcw k.1 ks
    |_,_=>false)
   |_,_=>false)
  |_,_=>false) &&Zk2 ks av H0 s l
noncomputable def ZgG(E:Env)(body:Code)(results:Array ResultVar)(h:ZeX)(args res:ZaP){α:Type}(pack:Zby args×Zce res->α)(x:Zce args)(kp:List (Nat×Nat×Nat):=[]):Option α:=
 let r:=Zb3 args x 0
 ZaZ body h {E with ks:=Zbl args 0} α ⟨r.1.toF,ZcE r.2.1,r.2.2,[]⟩ fun e s=>
  (ZkO E results args res [] e s).bind fun y=>bif Zk2 (Zbl args 0) r.1 (ZcE r.2.1) s kp then some (pack y) else none
def mkE(tys:List (Nat×Ty))(ms:List (Nat×Ty×Ty))(pks:List (Nat×Nat))(rws zxs:List Nat)(m:List (Nat×List Spec))(nt:Nat)(bds:List (Nat×Nat):=[]):Env:=
 {ty:=fun n=>tys.lookup n,mty:=fun n=>ms.lookup n,pk:=fun n=>(pks.lookup n).getD 0,rw:=fun n=>rws.contains n,zx:=fun n=>zxs.contains n,bd:=fun n=>bds.lookup n,specs:=fun n=>(m.lookup n).getD [],nt:=nt,ks:=[] }
def Zb1(f:Func):Code:=match f.body with
 |some b=>b
 |none=> .skip
end Tr
