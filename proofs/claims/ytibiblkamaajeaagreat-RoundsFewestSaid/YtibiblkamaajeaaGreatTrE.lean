/- The definitions of the abstract machine, the last part: states, regions, code, loops, functions. Conditions: none. -/
import Derived.Test.YtibiblkamaajeaaGreatTrD
open Nat renaming beq ->Va
open Prod renaming fst ->Vb
namespace Tr
open Go
structure AS where
 F:Nat->AV
 H:AH
 nx:Nat
 fz:List Nat
def ZlS(F:Nat->AV)(n:Nat)(v:AV):Nat->AV:=fun k=>bif Va k n then v else F k
def Zhy(F:Nat->AV)(d:Option Nat)(v:AV):Nat->AV:=match d with
 |some n=>ZlS F n v
 |none=>F
def ZhX:AV:= .tup .nil
def Zag(H:AH):Zbt->AH
 | []=>H
 |p::l=>Zag (Zb7 H p.1 p.2) l
inductive Ex where
 |normal
 |exit (id:Nat)
 |ret
def Ex.beq:Ex->Ex->Bool
 | .normal, .normal=>true
 | .exit a, .exit b=>Va a b
 | .ret, .ret=>true
 |_,_=>false
def ZjS{σ τ:Type}(step:σ->Option (σ ⊕ τ)):Nat->σ->Option τ
 |0,_=>none
 |n+1,s=>match step s with
  |some (.inl s')=>ZjS step n s'
  |some (.inr r)=>some r
  |none=>none
open Classical in
noncomputable def run{σ τ:Type}(step:σ->Option (σ ⊕ τ))(s:σ):Option τ:=
 match ZjS step 100000 s with
 |some r=>some r
 |none=>if h: ∃r n,ZjS step n s=some r then some h.choose else none
def Zqe{σ τ ρ:Type}(cnt:σ->Nat)(step:σ->Nat->Option (σ ⊕ τ))(k:τ->Option ρ)(z:ρ):Nat->σ->Prop
 |0,_=>False
 |n+1,s=> ∀i,i<cnt s->(∃s',step s i=some (.inl s')/\Zqe cnt step k z n s')\/ ∃t,step s i=some (.inr t)/\k t=some z
def Zxl{σ τ ρ:Type}(cnt:σ->Nat)(step:σ->Nat->Option (σ ⊕ τ))(k:τ->Option ρ):Nat->σ->Option ρ
 |0,_=>none
 |n+1,s=>bif Nat.ble (cnt s) 1 then(match step s 0 with
  |some (.inl s')=>Zxl cnt step k n s'
  |some (.inr t)=>k t
  |none=>none) else none
open Classical in
noncomputable def drun{σ τ ρ:Type}(cnt:σ->Nat)(step:σ->Nat->Option (σ ⊕ τ))(k:τ->Option ρ)(s:σ):Option ρ:=
 match Zxl cnt step k 1000 s with
 |some r=>some r
 |none=>if h: ∃z n,Zqe cnt step k z n s then some h.choose else none
structure Trc where
 i:Nat
 rd:List Nat
 wr:List Nat
def ZgL(E:Env):Option Nat->Bool
 |some d=>Nat.blt d E.nt&& !ZeJ d E.ks
 |none=>true
def Zgj(E:Env)(ops:Array Oper)(base:Nat)(fz:List Nat)(ρ:Type):List (Oper×Nat)->(Nat->AV)->AH->List Trc->((Nat->AV)->AH->List Trc->Option ρ)->Option ρ
 | [],F,H,tr,k=>k F H tr
 | (o,i)::rest,F,H,tr,k=>
  let go:=fun(F:Nat->AV)=>bif ZgL E o.dst then
   (aop E (base+i*ZaI) o.op o.type (aev F)).runK H [] fun r rd=>
    bif ZeA (r.2.map Vb) fz then
     Zgj E ops base fz ρ rest (Zhy F o.dst r.1) (Zag H r.2) (⟨i,rd,r.2.map Vb⟩::tr) k else none else none
  let skip:=fun(F:Nat->AV)=>bif ZgL E o.dst then Zgj E ops base fz ρ rest (Zhy F o.dst ZhX) H tr k else none
  match o.guard with
  |none=>go F
  |some (j,want)=>match (ops[j]?).bind (·.dst) with
   |none=>none
   |some g=>match F g with
    | .d .bool b=>bif b then(bif want then go (ZlS F g (.d .bool true)) else skip (ZlS F g (.d .bool true)))
      else(bif want then skip (ZlS F g (.d .bool false)) else go (ZlS F g (.d .bool false)))
    | .tup .nil=>skip F
    |_=>none
def ZiY:List Operand->List Nat
 | []=>[]
 | .tmp t::l=>t::ZiY l
 |_::l=>ZiY l
def ZfA(ops:Array Oper)(o:Oper):List Nat:=
 (match o.guard with
  |some (j,_)=>((ops[j]?).bind (·.dst)).toList
  |none=>[])++ZiY o.op.operands.toList
def ZfU(ops:Array Oper)(a b:Oper):Bool:=
 (match a.dst with
  |some d=> !ZeJ d (ZfA ops b) && (match b.dst with|some e=> !Va d e|none=>true)
  |none=>true) &&
 (match b.dst with
  |some d=> !ZeJ d (ZfA ops a)
  |none=>true)
def Zfe(i:Nat):List Trc->Option Trc
 | []=>none
 |t::l=>bif Va t.i i then some t else Zfe i l
def ZpE(tr:List Trc)(i j:Nat):Bool:=
 match Zfe i tr,Zfe j tr with
 |some a,some b=>ZeA a.wr b.rd&&ZeA a.wr b.wr&&ZeA b.wr a.rd
 |_,_=>true
def ZuS(ops:Array Oper):List (Nat×Nat):=
 let b:=Region.before ops
 (List.range ops.size).flatMap fun j=>(List.range j).filterMap fun i=>if (b.getD j 0).testBit i then none else some (i,j)
def Zwk(ops:Array Oper):Bool:=(ZuS ops).all fun p=>match ops[p.1]?,ops[p.2]? with
 |some a,some b=>ZfU ops a b
 |_,_=>true
def Zow(ops:Array Oper):Bool:=ops.toList.zipIdx.all fun p=>p.1.after.all fun e=> !Region.binds .any e||Nat.blt e.on p.2
def ZkB(ops:Array Oper)(tr:List Trc):Bool:=
 Zow ops&&Zwk ops&& (tr.all (fun t=>t.wr.isEmpty) || (ZuS ops).all fun p=>ZpE tr p.1 p.2)
@[reducible] def ElT:List (Nat×Ty)->Type
 | []=>Unit
 | [(_,t)]=>El t
 | (_,t)::p::l=>El t×ElT (p::l)
def ZwE(F:Nat->AV): (l:List (Nat×Ty))->Option (ElT l)
 | []=>some ()
 | [(n,t)]=>(match F n with
  | .d t' x=>ZaV t' t x
  |_=>none)
 | (n,t)::p::l=>(match F n with
  | .d t' x=>(ZaV t' t x).bind fun y=>(ZwE F (p::l)).bind fun z=>some (y,z)
  |_=>none)
def inT(F:Nat->AV): (l:List (Nat×Ty))->ElT l->Nat->AV
 | [],_=>F
 | [(n,t)],x=>ZlS F n (.d t x)
 | (n,t)::p::l,x=>inT (ZlS F n (.d t x.1)) (p::l) x.2
def Zws(l:List Nat)(F:Nat->AV):Nat->AV:=fun k=>bif ZeJ k l then .junk else F k
def ZpP(ops:List Oper):List Nat:=ops.filterMap (·.dst)
def Znx(E:Env)(ops:Array Oper)(draw:Bool)(outs:Option (List (Nat×Ty)))(ρ:Type)(s:AS)(k:AS->Option ρ):Option ρ:=
 let nx:=s.nx+ops.size*ZaI
 match outs with
 |none=>Zgj E ops s.nx s.fz ρ ops.toList.zipIdx s.F s.H [] fun F H tr=>bif !draw||ZkB ops tr then k ⟨F,H,nx,s.fz⟩ else none
 |some l=>(Zgj E ops s.nx s.fz (ElT l) ops.toList.zipIdx s.F s.H [] fun F _ tr=>bif (!draw||ZkB ops tr) &&tr.all (fun t=>t.wr.isEmpty) then ZwE F l else none).bind
   fun x=>k ⟨inT (Zws (ZpP ops.toList) s.F) l x,s.H,nx,s.fz⟩
structure Zip where
 roots:List (Nat×Pat)
 fns:List (Nat×FuncId×List Nat):=[]
 kept:List Nat:=[]
 als:List (Nat×Nat):=[]
 kf:List (Nat×Nat×Nat):=[]
 kv:List Nat:=[]
@[reducible] def ElR:List (Nat×Pat)->Type
 | []=>Unit
 | [(_,p)]=>ElP p
 | (_,p)::q::l=>ElP p×ElR (q::l)
def Zv6(F:Nat->AV): (l:List (Nat×Pat))->Acc (ElR l×Ids)
 | []=> .ret ((),Ids.none)
 | [(n,p)]=>ext p (F n)
 | (n,p)::q::l=>(ext p (F n)).bind fun x=>(Zv6 F (q::l)).bind fun y=> .ret ((x.1,y.1),x.2.app y.2)
def Zgp: (l:List (Nat×Pat))->ElR l->Nat->List (Nat×AV) ×List (Nat×ZeK) ×Nat
 | [],_,n=>([],[],n)
 | [(m,p)],x,n=>let r:=inj p x n;([(m,r.1)],r.2.1,r.2.2)
 | (m,p)::q::l,x,n=>let r:=inj p x.1 n;let s:=Zgp (q::l) x.2 r.2.2;((m,r.1)::s.1,r.2.1++s.2.1,s.2.2)
def Znc:List (Nat×AV)->Nat->AV
 | [],_=> .junk
 |p::l,k=>bif Va k p.1 then p.2 else Znc l k
def Zeu:List (Nat×ZeK)->AH
 | [],_=>none
 |p::l,k=>bif Va k p.1 then some p.2 else Zeu l k
def AV.box? :AV->Option Nat
 | .ptr id []=>some id
 |_=>none
def Ze3(F:Nat->AV):AVs->List Nat->Bool
 | .nil,[]=>true
 | .cons v l,n::m=>(match v.box?,(F n).box? with
  |some a,some b=>Va a b
  |_,_=>false) &&Ze3 F l m
 |_,_=>false
def ZsE(F:Nat->AV):List (Nat×FuncId×List Nat)->Bool
 | []=>true
 | (n,f,l)::m=>(match F n with
  | .fn f' caps=>Va f' f&&Ze3 F caps l
  |_=>false) &&ZsE F m
def Zpr(F:Nat->AV):List (Nat×FuncId×List Nat)->Nat->AV
 | []=>F
 | (n,f,l)::m=>ZlS (Zpr F m) n (.fn f (AVs.ofList (l.map F)))
def Zrg(x y:AV):Bool:=match x,y with
 | .vw a, .vw b=>Va a b
 | .mp a, .mp b=>Va a b
 | .ptr a [], .ptr b []=>Va a b
 | .nils, .nils=>true
 |_,_=>false
def Zsg(F:Nat->AV):List (Nat×Nat)->Bool
 | []=>true
 |p::l=>Zrg (F p.1) (F p.2) &&Zsg F l
def ZpL(F:Nat->AV):List (Nat×Nat)->Nat->AV
 | []=>F
 |p::l=>ZlS (ZpL F l) p.1 (F p.2)
def AV.boxes:AVs->List Nat
 | .nil=>[]
 | .cons v l=>v.box?.toList++AV.boxes l
def ZdD(s:AS):List Nat->List Nat
 | []=>[]
 |n::l=>(match s.F n with
  | .ptr id []=>[id]
  | .vw id=>[id]
  | .nw id _ _ _=>[id]
  | .mp id=>[id]
  | .fn _ caps=>AV.boxes caps
  |_=>[])++ZdD s l
def ZlR(H:AH)(id:Nat):Bool:=match H id with
 |some (.var _ (.d _ _))=>true
 |some (.vec _ _)=>true
 |some (.map _ _ _)=>true
 |some (.rows _ _ _ none)=>true
 |some (.mrows _ _ _ _ none)=>true
 |some (.rng _ _ _ _)=>true
 |some (.dat _ _)=>true
 |some (.bld _ _ _)=>true
 |_=>false
def Zpd(H:AH):AVs->Bool
 | .nil=>true
 | .cons v l=>(match v with
  | .ptr id []=>ZlR H id
  | .dp _ _=>true
  | .d _ _=>true
  |_=>false) &&Zpd H l
def Ze8(s:AS):List Nat->Bool
 | []=>true
 |n::l=>(match s.F n with
  | .d _ _=>true
  | .dp _ _=>true
  | .nilr=>true
  | .nils=>true
  | .ptr id []=>ZlR s.H id
  | .vw id=>ZlR s.H id
  | .nw id _ _ _=>ZlR s.H id
  | .mp id=>ZlR s.H id
  | .fn _ caps=>Zpd s.H caps
  |_=>false) &&Ze8 s l
def ZaC(b:AS)(e:Zip):List Nat:=ZdD b e.kept++b.fz
def ZbS(E:Env)(e:Zip):Env:= {E with ks:=e.kept++(e.kv++E.ks) }
def Zru(fz:List Nat)(e:Zip)(s:AS):Option (ElR e.roots):=
 (Zv6 s.F e.roots).runK s.H [] fun r _=>bif r.2.ok fz&&ZeA r.2.br fz&&ZsE s.F e.fns&&Zsg s.F e.als then some r.1 else none
def ZqH(b:AS)(fz:List Nat)(e:Zip)(x:ElR e.roots):AS:=
 let r:=Zgp e.roots x b.nx
 ⟨ZpL (Zpr (fun k=>bif ZeJ k e.kept then b.F k else Znc r.1 k) e.fns) e.als,fun id=>bif ZeJ id (ZaC b e) then b.H id else Zeu r.2.1 id,r.2.2,fz⟩
def ZpV(s:AS)(k:Nat×Nat×Nat):Option Nat:=match s.F k.1 with
 | .ptr id []=>(match s.H id with
  |some (.var T (.agg c))=>(match c.nth k.2.1 with
   |some (.vw a)=>bif Va (Zvb T k.2.1) k.2.2 then some a else none
   |_=>none)
  |_=>none)
 |_=>none
def Zxc(b s:AS):List (Nat×Nat×Nat)->Bool
 | []=>true
 |k::l=>(match ZpV b k,ZpV s k with
  |some x,some y=>Va x y
  |_,_=>false) &&Zxc b s l
def ZuG(b:AS)(fz:List Nat)(k:Nat×Nat×Nat)(s:AS):AS:=match ZpV b k,ZpV s k,s.F k.1 with
 |some a,some a2, .ptr id []=>(match s.H id,s.H a2,b.H a with
  |some (.var T (.agg c)),some (.vec t xs),some (.vec t0 _)=>bif t0==t&& !Va a2 id&& !Va a id&& !ZeJ a fz&& !ZeJ a2 fz&& !ZeJ id fz then
    {s with H:=Zb7 (Zb7 (Zb7 (Zb7 s.H a2 none) id none) a (some (.vec t xs))) id (some (.var T (.agg (c.putNth k.2.1 (.vw a))))) } else s
  |_,_,_=>s)
 |_,_,_=>s
def Zu3(b:AS)(fz:List Nat):List (Nat×Nat×Nat)->AS->AS
 | [],s=>s
 |k::l,s=>Zu3 b fz l (ZuG b fz k s)
def Zwt(b:AS):List Nat->(Nat->AV)->Nat->AV
 | [],F=>F
 |n::l,F=>Zwt b l (ZlS F n (b.F n))
def Zil(b:AS)(fz:List Nat)(e:Zip)(s:AS):Option (ElR e.roots):=bif Zxc b s e.kf then Zru fz e s else none
def Znu(b:AS)(fz:List Nat)(e:Zip)(x:ElR e.roots):AS:=
 let s:=Zu3 b (ZaC b e) e.kf (ZqH b fz e x)
 ⟨Zwt b e.kv s.F,s.H,s.nx,fz⟩
abbrev Zij:=List (Ex×Zip)
@[reducible] def Zge:Zij->Type
 | []=>Empty
 | [e]=>ElR e.2.roots
 |e::f::l=>ElR e.2.roots ⊕ Zge (f::l)
def Zgk(b:AS)(fz:List Nat): (J:Zij)->Ex->AS->Option (Zge J)
 | [],_,_=>none
 | [e],x,s=>bif x.beq e.1 then Zil b fz e.2 s else none
 |e::f::l,x,s=>bif x.beq e.1 then(Zil b fz e.2 s).bind fun y=>some (.inl y) else(Zgk b fz (f::l) x s).bind fun y=>some (.inr y)
def Zgv{ρ:Type}(b:AS): (J:Zij)->Zge J->(Ex->AS->Option ρ)->Option ρ
 | [],_,_=>none
 | [e],y,k=>k e.1 (Znu b b.fz e.2 y)
 |e::f::l,y,k=>match y with
  | .inl y=>k e.1 (Znu b b.fz e.2 y)
  | .inr y=>Zgv b (f::l) y k
def Zip.slots(e:Zip):List Nat:=e.roots.map Vb++e.fns.map Vb++e.kept
def Zc1(e:Zip):Zij->Bool
 | []=>true
 |f::l=>f.2.kept.all (fun n=>ZeJ n e.kept) &&f.2.kv.all (fun n=>ZeJ n e.kv) &&Ze9 f.2.slots&&Zc1 e l
inductive Zif where
 |leaf
 |seq (a b:Zif)
 |cnd (J:Option (Zip×Zij)) (a b:Zif)
 |lp (e:Zip) (J:Zij) (h:Zif)
 |lpd (it:Nat) (e:Zip) (J:Zij) (h:Zif)
 |reg (outs:List (Nat×Ty))
def Zif.l:Zif->Zif
 | .seq a _=>a
 | .cnd _ a _=>a
 |_=> .leaf
def Zif.r:Zif->Zif
 | .seq _ b=>b
 | .cnd _ _ b=>b
 |_=> .leaf
def Zif.join:Zif->Option (Zip×Zij)
 | .cnd J _ _=>J
 |_=>none
def Zif.outs:Zif->Option (List (Nat×Ty))
 | .reg l=>some l
 |_=>none
def Zhj(it:Nat)(s:AS):Nat:=match s.F it with
 | .ptr id []=>(match s.H id with
  |some (.rng _ _ rest _)=>bif rest.isEmpty then 1 else rest.length
  |_=>1)
 |_=>1
def Zoh(E:Env)(ops:Array Oper)(it i:Nat)(ρ:Type)(s:AS)(k:AS->Option ρ):Option ρ:=
 match ops.toList.zipIdx with
 | []=>none
 | (o,_)::l=>(match o.op,o.guard,o.dst with
  | .next (.tmp it') false,none,some d=>bif Va it' it&&ZgL E (some d) then(match s.F it with
   | .ptr id []=>(match s.H id with
    |some (.rng kt vt rest _)=>bif ZeJ id s.fz then none else
      bif rest.isEmpty then Zgj E ops s.nx s.fz ρ l (Zhy s.F (some d) (.tup (.cons (.d .bool false) .nil))) s.H [] fun F H _=>k ⟨F,H,s.nx+ops.size*ZaI,s.fz⟩
      else(rest[i]?).bind fun e=>Zgj E ops s.nx s.fz ρ l (Zhy s.F (some d) (.tup (.cons (.d .bool true) (.cons (.d kt e.1) (.cons (.d vt e.2) .nil)))))
       (Zb7 s.H id (some (.rng kt vt (rest.eraseIdx i) (some e)))) [] fun F H _=>k ⟨F,H,s.nx+ops.size*ZaI,s.fz⟩
    |_=>none)
   |_=>none) else none
  |_,_,_=>none)
noncomputable def Zb5:Code->Zif->Env->(ρ:Type)->AS->(Ex->AS->Option ρ)->Option ρ
 | .skip,_,_,_,s,k=>k .normal s
 | .label _,_,_,_,s,k=>k .normal s
 | .scope c,h,E,ρ,s,k=>Zb5 c h E ρ s k
 | .region _ ops draw,h,E,ρ,s,k=>Znx E ops draw h.outs ρ s (k .normal)
 | .seq a b,h,E,ρ,s,k=>Zb5 a h.l E ρ s fun e s' =>match e with
  | .normal=>Zb5 b h.r E ρ s' k
  |e=>k e s'
 | .cond c a b,h,E,ρ,s,k=>match aev s.F c with
  | .d .bool t=>(match h.join with
   |none=>bif t then Zb5 a h.l E ρ s k else Zb5 b h.r E ρ s k
   |some (e,J)=>bif Ze8 s e.kept&&Zc1 e J then
     (let s1:AS:= {s with fz:=ZaC s e}
      bif t then Zb5 a h.l (ZbS E e) (Zge J) s1 (Zgk s (ZaC s e) J) else Zb5 b h.r (ZbS E e) (Zge J) s1 (Zgk s (ZaC s e) J)).bind fun o=>Zgv s J o k
    else none)
  |_=>none
 | .block id c,h,E,ρ,s,k=>Zb5 c h E ρ s fun e s' =>match e with
  | .exit i=>bif Va i id then k .normal s' else k (.exit i) s'
  |e=>k e s'
 | .loop c,h,E,_,s,k=>match h with
  | .lp en J hb=>bif Ze8 s en.kept&&Zc1 en J&&Ze9 en.slots then
    (Zil s (ZaC s en) en s).bind fun x=>(run (fun y=>Zb5 c hb (ZbS E en) (ElR en.roots ⊕ Zge J) (Znu s (ZaC s en) en y) fun e s' =>match e with
     | .normal=>(Zil s (ZaC s en) en s').bind fun z=>some (.inl z)
     |e=>(Zgk s (ZaC s en) J e s').bind fun z=>some (.inr z)) x).bind fun o=>Zgv s J o k
   else none
  | .lpd it en J hb=>(match c with
   | .seq (.region _ ops false) c2=>bif Ze8 s en.kept&&Zc1 en J&&Ze9 en.slots then
     (Zil s (ZaC s en) en s).bind fun x=>drun (fun y=>Zhj it (Znu s (ZaC s en) en y)) (fun y i=>Zoh (ZbS E en) ops it i (ElR en.roots ⊕ Zge J) (Znu s (ZaC s en) en y) fun s1=>Zb5 c2 hb (ZbS E en) (ElR en.roots ⊕ Zge J) s1 fun e s' =>match e with
      | .normal=>(Zil s (ZaC s en) en s').bind fun z=>some (.inl z)
      |e=>(Zgk s (ZaC s en) J e s').bind fun z=>some (.inr z)) (fun o=>Zgv s J o k) x
    else none
   |_=>none)
  |_=>none
 | .exit id,_,_,_,s,k=>k (.exit id) s
 | .ret,_,_,_,s,k=>k .ret s
 |_,_,_,_,_,_=>none
def AVs.toF:AVs->Nat->AV
 | .nil,_=>ZhX
 | .cons v _,0=>v
 | .cons _ l,n+1=>l.toF n
mutual
def Pat.back:Pat->Bool
 | .own _ k=>k
 | .var _ _=>true
 | .map _ _=>true
 | .rows _ k=>k
 | .mrows _ _=>true
 | .bld _ _ k=>k
 | .agg l=>l.back
 | .fn _ l=>l.back
 |_=>false
def Zbn.back:Zbn->Bool
 | .nil=>false
 | .cons p l=>p.back||l.back
end
mutual
def Zv5: (p:Pat)->ElP p
 | .pd t=>ZbC t
 | .own _ _=>[]
 | .var _ p=>Zv5 p
 | .ro t=>ZbC t
 | .map _ _=>[]
 | .rows _ _=>[]
 | .mrows _ _=>[]
 | .it _ _=>[]
 | .bld _ _ _=>[]
 | .agg l=>Zr6 l
 | .fn _ l=>Zr6 l
 | .nilr=>()
 | .nils=>()
 | .any=>()
def Zr6: (l:Zbn)->Zeq l
 | .nil=>()
 | .cons p l=>(Zv5 p,Zr6 l)
end
mutual
def Zu2: (p:Pat)->Zq7 p
 | .own _ true=>[]
 | .own _ false=>()
 | .var _ p=>Zv5 p
 | .map _ _=>[]
 | .rows _ true=>[]
 | .rows _ false=>()
 | .mrows _ _=>[]
 | .it _ _=>()
 | .bld _ _ true=>[]
 | .bld _ _ false=>()
 | .agg l=>Zoa l
 | .fn _ l=>Zoa l
 | .pd _=>()
 | .ro _=>()
 | .nilr=>()
 | .nils=>()
 | .any=>()
def Zoa: (l:Zbn)->ZcS l
 | .nil=>()
 | .cons p l=>(Zu2 p,Zoa l)
end
def Zr2:Pat->AV->Bool
 | .pd t,v=>v.fits t
 | .own t _,v=>v.fits (.sl t)
 | .rows t _,v=>v.fits (.sl (.sl t))
 | .agg _,_=>true
 | .fn _ _,_=>true
 | .any,_=>false
 | .nils,v=>v.fits (.sl .unit)
 |_,v=>v.fits .ref
mutual
def ZdM: (p:Pat)->AV->Acc (Zq7 p×Ids)
 | .own t true, .vw id=> .getH id fun
  |some (.vec t' xs)=> .opt (ZaV (.sl t') (.sl t) xs) fun y=> .ret (y,⟨[id],[]⟩)
  |_=> .fail
 | .own _ false,_=> .ret ((),Ids.none)
 | .var t p, .ptr id []=> .getH id fun
  |some (.var t' c)=>bif t' ==t&&p.fits t then(ext p c).bind fun r=> .ret (r.1,⟨id::r.2.tk,r.2.br⟩) else .fail
  |_=> .fail
 | .map kt vt, .mp id=> .getH id fun
  |some (.map k e m)=> .opt (ZaV (.sl (.prod k e)) (.sl (.prod kt vt)) m) fun y=> .ret (y,⟨[id],[]⟩)
  |_=> .fail
 | .rows t true, .vw id=> .getH id fun
  |some (.rows t' xs _ none)=> .opt (ZaV (.sl (.sl t')) (.sl (.sl t)) xs) fun y=> .ret (y,⟨[id],[]⟩)
  |_=> .fail
 | .rows _ false,_=> .ret ((),Ids.none)
 | .mrows kt t, .mp id=> .getH id fun
  |some (.mrows k t' m _ none)=> .opt (ZaV (.sl (.prod k (.sl t'))) (.sl (.prod kt (.sl t))) m) fun y=> .ret (y,⟨[id],[]⟩)
  |_=> .fail
 | .it _ _,_=> .ret ((),Ids.none)
 | .bld T e true, .ptr id []=> .getH id fun
  |some (.bld T' e' bs)=>bif Va T' T&&Va e' e then .ret (bs,⟨[id],[]⟩) else .fail
  |_=> .fail
 | .bld _ _ false,_=> .ret ((),Ids.none)
 | .agg l, .agg vs=>Zjz l vs
 | .fn f l, .fn f' vs=>bif Va f' f then Zjz l vs else .fail
 | .pd _,_=> .ret ((),Ids.none)
 | .ro _,_=> .ret ((),Ids.none)
 | .nilr,_=> .ret ((),Ids.none)
 | .nils,_=> .ret ((),Ids.none)
 | .any,_=> .ret ((),Ids.none)
 |_,_=> .fail
def Zjz: (l:Zbn)->AVs->Acc (ZcS l×Ids)
 | .nil, .nil=> .ret ((),Ids.none)
 | .cons p l, .cons v vs=>bif Zr2 p v then(ZdM p v).bind fun x=>(Zjz l vs).bind fun y=> .ret ((x.1,y.1),x.2.app y.2) else .fail
 |_,_=> .fail
end
def Zj4: (l:Zbn)->AVs->Acc (ZcS l×Ids)
 | .nil,_=> .ret ((),Ids.none)
 | .cons p l, .cons v vs=>bif p.back then(ZdM p v).bind fun x=>(Zj4 l vs).bind fun y=> .ret ((x.1,y.1),x.2.app y.2)
   else(Zj4 l vs).bind fun y=> .ret ((Zu2 p,y.1),y.2)
 |_,_=> .fail
def Zn9(E:Env)(s:AS):List ResultVar->Acc AVs
 | []=> .ret .nil
 | .tmp t::l=>(Zn9 E s l).bind fun vs=> .ret (.cons (s.F t) vs)
 | .cell a T::l=> .opt (E.ty T) fun t=>(match s.F a with
  | .ptr id p=> .getH id fun
   |some (.var _ c)=>(Zjh c p).bind fun v=>bif v.fits t&&v.solid then(Zn9 E s l).bind fun vs=> .ret (.cons v vs) else .fail
   |_=> .fail
  |_=> .fail)
def ZbD:Zbn->Nat->List Nat
 | .nil,_=>[]
 | .cons p l,n=>(bif p.back then [n] else [])++ZbD l (n+1)
def Zbn.len:Zbn->Nat
 | .nil=>0
 | .cons _ l=>l.len+1
def Zjm(F:Nat->AV):Zbn->Nat->AVs
 | .nil,_=> .nil
 | .cons _ l,n=> .cons (F n) (Zjm F l (n+1))
def ZtD(E:Env)(results:Array ResultVar)(args res:Zbn)(fz:List Nat)(e:Ex)(s:AS):Option (ZcS args×Zeq res):=
 match e with
 | .exit _=>none
 |_=>((Zn9 E s results.toList).bind fun vs=>(Zgl res vs).bind fun r=>(Zj4 args (Zjm s.F args 0)).bind fun o=> .ret ((o.1,r.1),o.2.app r.2)).runK s.H [] fun r _=>
   bif r.2.ok fz&&ZeA r.2.br fz then some r.1 else none
def ZtB(ks:List Nat)(av:AVs)(H0:AH)(s:AS):List (Nat×Nat×Nat)->Bool
 | []=>true
 |k::l=>(match av.nth k.1,s.F k.1 with
  |some (.ptr id []), .ptr id' []=>(match H0 id,s.H id' with
   |some (.var T (.agg c)),some (.var T' (.agg c'))=>(match c.nth k.2.1,c'.nth k.2.1 with
    |some (.vw a),some (.vw b)=>Va a b&&T' ==T&&Va (Zvb T k.2.1) k.2.2&&ZeJ k.1 ks
    |_,_=>false)
   |_,_=>false)
  |_,_=>false) &&ZtB ks av H0 s l
noncomputable def ZqB(E:Env)(body:Code)(results:Array ResultVar)(h:Zif)(args res:Zbn){α:Type}(pack:ZcS args×Zeq res->α)(x:Zeq args)(kp:List (Nat×Nat×Nat):=[]):Option α:=
 let r:=ZdK args x 0
 Zb5 body h {E with ks:=ZbD args 0} α ⟨r.1.toF,Zeu r.2.1,r.2.2,[]⟩ fun e s=>
  (ZtD E results args res [] e s).bind fun y=>bif ZtB (ZbD args 0) r.1 (Zeu r.2.1) s kp then some (pack y) else none
def mkE(tys:List (Nat×Ty))(ms:List (Nat×Ty×Ty))(pks:List (Nat×Nat))(rws zxs:List Nat)(m:List (Nat×List Spec))(nt:Nat)(bds:List (Nat×Nat):=[]):Env:=
 {ty:=fun n=>tys.lookup n,mty:=fun n=>ms.lookup n,pk:=fun n=>(pks.lookup n).getD 0,rw:=fun n=>rws.contains n,zx:=fun n=>zxs.contains n,bd:=fun n=>bds.lookup n,specs:=fun n=>(m.lookup n).getD [],nt:=nt,ks:=[] }
def ZpN(f:Func):Code:=match f.body with
 |some b=>b
 |none=> .skip
end Tr
