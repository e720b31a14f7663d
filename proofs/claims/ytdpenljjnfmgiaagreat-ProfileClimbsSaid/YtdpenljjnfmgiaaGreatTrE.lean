/- The definitions of the abstract machine, the last part: states, regions, code, loops, functions. Conditions: none. -/
import Derived.Test.YtdpenljjnfmgiaaGreatTrD
open Nat renaming beq ->Va
open Prod renaming fst ->Vb
namespace Tr
open Go
structure AS where
 F:Nat->AV
 H:AH
 nx:Nat
 fz:List Nat
def Zg4(F:Nat->AV)(n:Nat)(v:AV):Nat->AV:=fun k=>bif Va k n then v else F k
def ZdJ(F:Nat->AV)(d:Option Nat)(v:AV):Nat->AV:=match d with
 |some n=>Zg4 F n v
 |none=>F
def ZdA:AV:= .tup .nil
def Zad(H:AH):ZaN->AH
 | []=>H
 |p::l=>Zad (Za9 H p.1 p.2) l
inductive Ex where
 |normal
 |exit (id:Nat)
 |ret
 |jump (l:Nat)
def Ex.beq:Ex->Ex->Bool
 | .normal, .normal=>true
 | .exit a, .exit b=>Va a b
 | .ret, .ret=>true
 | .jump a, .jump b=>Va a b
 |_,_=>false
def ZfD{σ τ:Type}(step:σ->Option (σ ⊕ τ)):Nat->σ->Option τ
 |0,_=>none
 |n+1,s=>match step s with
  |some (.inl s')=>ZfD step n s'
  |some (.inr r)=>some r
  |none=>none
open Classical in
noncomputable def run{σ τ:Type}(step:σ->Option (σ ⊕ τ))(s:σ):Option τ:=
 match ZfD step 100000 s with
 |some r=>some r
 |none=>if h: ∃r n,ZfD step n s=some r then some h.choose else none
def Znw{σ τ ρ:Type}(cnt:σ->Nat)(step:σ->Nat->Option (σ ⊕ τ))(k:τ->Option ρ)(z:ρ):Nat->σ->Prop
 |0,_=>False
 |n+1,s=> ∀i,i<cnt s->(∃s',step s i=some (.inl s')/\Znw cnt step k z n s')\/ ∃t,step s i=some (.inr t)/\k t=some z
def ZnR{σ τ ρ:Type}(cnt:σ->Nat)(step:σ->Nat->Option (σ ⊕ τ))(k:τ->Option ρ):Nat->σ->Option ρ
 |0,_=>none
 |n+1,s=>bif Nat.ble (cnt s) 1 then(match step s 0 with
  |some (.inl s')=>ZnR cnt step k n s'
  |some (.inr t)=>k t
  |none=>none) else none
open Classical in
noncomputable def drun{σ τ ρ:Type}(cnt:σ->Nat)(step:σ->Nat->Option (σ ⊕ τ))(k:τ->Option ρ)(s:σ):Option ρ:=
 match ZnR cnt step k 1000 s with
 |some r=>some r
 |none=>if h: ∃z n,Znw cnt step k z n s then some h.choose else none
structure Trc where
 i:Nat
 rd:List Nat
 wr:List Nat
def ZcX(E:Env):Option Nat->Bool
 |some d=>Nat.blt d E.nt&& !ZcA d E.ks
 |none=>true
def ZdF(E:Env)(ops:Array Oper)(base:Nat)(fz:List Nat)(ρ:Type):List (Oper×Nat)->(Nat->AV)->AH->List Trc->((Nat->AV)->AH->List Trc->Option ρ)->Option ρ
 | [],F,H,tr,k=>k F H tr
 | (o,i)::rest,F,H,tr,k=>
  let go:=fun(F:Nat->AV)=>bif ZcX E o.dst then
   (aop E (base+i*E.stp) o.op o.type (aev F)).runK H [] fun r rd=>
    bif Zb7 (r.2.map Vb) fz then
     ZdF E ops base fz ρ rest (ZdJ F o.dst r.1) (Zad H r.2) (⟨i,rd,r.2.map Vb⟩::tr) k else none else none
  let skip:=fun(F:Nat->AV)=>bif ZcX E o.dst then ZdF E ops base fz ρ rest (ZdJ F o.dst ZdA) H tr k else none
  match o.guard with
  |none=>go F
  |some (j,want)=>match (ops[j]?).bind (·.dst) with
   |none=>none
   |some g=>match F g with
    | .d .bool b=>bif b then(bif want then go (Zg4 F g (.d .bool true)) else skip (Zg4 F g (.d .bool true)))
      else(bif want then skip (Zg4 F g (.d .bool false)) else go (Zg4 F g (.d .bool false)))
    | .tup .nil=>skip F
    |_=>none
def ZeQ:List Operand->List Nat
 | []=>[]
 | .tmp t::l=>t::ZeQ l
 |_::l=>ZeQ l
def Zc8(ops:Array Oper)(o:Oper):List Nat:=
 (match o.guard with
  |some (j,_)=>((ops[j]?).bind (·.dst)).toList
  |none=>[])++ZeQ o.op.operands.toList
def Zde(ops:Array Oper)(a b:Oper):Bool:=
 (match a.dst with
  |some d=> !ZcA d (Zc8 ops b) && (match b.dst with|some e=> !Va d e|none=>true)
  |none=>true) &&
 (match b.dst with
  |some d=> !ZcA d (Zc8 ops a)
  |none=>true)
def Zc0(i:Nat):List Trc->Option Trc
 | []=>none
 |t::l=>bif Va t.i i then some t else Zc0 i l
def ZiM(tr:List Trc)(i j:Nat):Bool:=
 match Zc0 i tr,Zc0 j tr with
 |some a,some b=>Zb7 a.wr b.rd&&Zb7 a.wr b.wr&&Zb7 b.wr a.rd
 |_,_=>true
def Zmg(ops:Array Oper):List (Nat×Nat):=
 let b:=Region.before ops
 (List.range ops.size).flatMap fun j=>(List.range j).filterMap fun i=>if (b.getD j 0).testBit i then none else some (i,j)
def Znc(ops:Array Oper):Bool:=(Zmg ops).all fun p=>match ops[p.1]?,ops[p.2]? with
 |some a,some b=>Zde ops a b
 |_,_=>true
def Zh5(ops:Array Oper):Bool:=ops.toList.zipIdx.all fun p=>p.1.after.all fun e=> !Region.binds .any e||Nat.blt e.on p.2
def Zfa(ops:Array Oper)(tr:List Trc):Bool:=
 Zh5 ops&&Znc ops&& (tr.all (fun t=>t.wr.isEmpty) || (Zmg ops).all fun p=>ZiM tr p.1 p.2)
@[reducible] def ElT:List (Nat×Ty)->Type
 | []=>Unit
 | [(_,t)]=>El t
 | (_,t)::p::l=>El t×ElT (p::l)
def Znx(F:Nat->AV): (l:List (Nat×Ty))->Option (ElT l)
 | []=>some ()
 | [(n,t)]=>(match F n with
  | .d t' x=>Zay t' t x
  |_=>none)
 | (n,t)::p::l=>(match F n with
  | .d t' x=>(Zay t' t x).bind fun y=>(Znx F (p::l)).bind fun z=>some (y,z)
  |_=>none)
def inT(F:Nat->AV): (l:List (Nat×Ty))->ElT l->Nat->AV
 | [],_=>F
 | [(n,t)],x=>Zg4 F n (.d t x)
 | (n,t)::p::l,x=>inT (Zg4 F n (.d t x.1)) (p::l) x.2
def Zna(l:List Nat)(F:Nat->AV):Nat->AV:=fun k=>bif ZcA k l then .junk else F k
def ZiA(ops:List Oper):List Nat:=ops.filterMap (·.dst)
def Zh8(E:Env)(ops:Array Oper)(draw:Bool)(outs:Option (List (Nat×Ty)))(ρ:Type)(s:AS)(k:AS->Option ρ):Option ρ:=
 let nx:=s.nx+ops.size*E.stp
 match outs with
 |none=>ZdF E ops s.nx s.fz ρ ops.toList.zipIdx s.F s.H [] fun F H tr=>bif !draw||Zfa ops tr then k ⟨F,H,nx,s.fz⟩ else none
 |some l=>(ZdF E ops s.nx s.fz (ElT l) ops.toList.zipIdx s.F s.H [] fun F _ tr=>bif (!draw||Zfa ops tr) &&tr.all (fun t=>t.wr.isEmpty) then Znx F l else none).bind
   fun x=>k ⟨inT (Zna (ZiA ops.toList) s.F) l x,s.H,nx,s.fz⟩
structure ZeJ where
 roots:List (Nat×Pat)
 fns:List (Nat×FuncId×List Nat):=[]
 kept:List Nat:=[]
 als:List (Nat×Nat):=[]
 kf:List (Nat×Nat×Nat):=[]
 kv:List Nat:=[]
@[reducible] def ElR:List (Nat×Pat)->Type
 | []=>Unit
 | [(_,p)]=>ElP p
 | (_,p)::q::l=>ElP p×ElR (q::l)
def Zm9(F:Nat->AV): (l:List (Nat×Pat))->Acc (ElR l×Ids)
 | []=> .ret ((),Ids.none)
 | [(n,p)]=>ext p (F n)
 | (n,p)::q::l=>(ext p (F n)).bind fun x=>(Zm9 F (q::l)).bind fun y=> .ret ((x.1,y.1),x.2.app y.2)
def Zdv: (l:List (Nat×Pat))->ElR l->Nat->List (Nat×AV) ×List (Nat×Zcv) ×Nat
 | [],_,n=>([],[],n)
 | [(m,p)],x,n=>let r:=inj p x n;([(m,r.1)],r.2.1,r.2.2)
 | (m,p)::q::l,x,n=>let r:=inj p x.1 n;let s:=Zdv (q::l) x.2 r.2.2;((m,r.1)::s.1,r.2.1++s.2.1,s.2.2)
def Zhl:List (Nat×AV)->Nat->AV
 | [],_=> .junk
 |p::l,k=>bif Va k p.1 then p.2 else Zhl l k
def Zbw:List (Nat×Zcv)->AH
 | [],_=>none
 |p::l,k=>bif Va k p.1 then some p.2 else Zbw l k
def AV.box? :AV->Option Nat
 | .ptr id []=>some id
 |_=>none
def ZcJ(F:Nat->AV):AVs->List Nat->Bool
 | .nil,[]=>true
 | .cons v l,n::m=>(match v.box?,(F n).box? with
  |some a,some b=>Va a b
  |_,_=>false) &&ZcJ F l m
 |_,_=>false
def Zln(F:Nat->AV):List (Nat×FuncId×List Nat)->Bool
 | []=>true
 | (n,f,l)::m=>(match F n with
  | .fn f' caps=>Va f' f&&ZcJ F caps l
  |_=>false) &&Zln F m
def ZiE(F:Nat->AV):List (Nat×FuncId×List Nat)->Nat->AV
 | []=>F
 | (n,f,l)::m=>Zg4 (ZiE F m) n (.fn f (AVs.ofList (l.map F)))
def ZkQ(x y:AV):Bool:=match x,y with
 | .vw a, .vw b=>Va a b
 | .mp a, .mp b=>Va a b
 | .ptr a [], .ptr b []=>Va a b
 | .nils, .nils=>true
 |_,_=>false
def Zld(F:Nat->AV):List (Nat×Nat)->Bool
 | []=>true
 |p::l=>ZkQ (F p.1) (F p.2) &&Zld F l
def ZiX(F:Nat->AV):List (Nat×Nat)->Nat->AV
 | []=>F
 |p::l=>Zg4 (ZiX F l) p.1 (F p.2)
def AV.boxes:AVs->List Nat
 | .nil=>[]
 | .cons v l=>v.box?.toList++AV.boxes l
def Zb6(s:AS):List Nat->List Nat
 | []=>[]
 |n::l=>(match s.F n with
  | .ptr id []=>[id]
  | .vw id=>[id]
  | .nw id _ _ _=>[id]
  | .mp id=>[id]
  | .fn _ caps=>AV.boxes caps
  |_=>[])++Zb6 s l
def Zg3(H:AH)(id:Nat):Bool:=match H id with
 |some (.var _ (.d _ _))=>true
 |some (.vec _ _)=>true
 |some (.map _ _ _)=>true
 |some (.rows _ _ _ none)=>true
 |some (.mrows _ _ _ _ none)=>true
 |some (.rng _ _ _ _)=>true
 |some (.dat _ _)=>true
 |some (.bld _ _ _)=>true
 |_=>false
def ZiC(H:AH):AVs->Bool
 | .nil=>true
 | .cons v l=>(match v with
  | .ptr id []=>Zg3 H id
  | .dp _ _=>true
  | .d _ _=>true
  |_=>false) &&ZiC H l
def ZcW(s:AS):List Nat->Bool
 | []=>true
 |n::l=>(match s.F n with
  | .d _ _=>true
  | .dp _ _=>true
  | .nilr=>true
  | .nils=>true
  | .ptr id []=>Zg3 s.H id
  | .vw id=>Zg3 s.H id
  | .nw id _ _ _=>Zg3 s.H id
  | .mp id=>Zg3 s.H id
  | .fn _ caps=>ZiC s.H caps
  |_=>false) &&ZcW s l
def Zam(b:AS)(e:ZeJ):List Nat:=Zb6 b e.kept++b.fz
def Zbb(E:Env)(e:ZeJ):Env:= {E with ks:=e.kept++(e.kv++E.ks) }
def Zke(fz:List Nat)(e:ZeJ)(s:AS):Option (ElR e.roots):=
 (Zm9 s.F e.roots).runK s.H [] fun r _=>bif r.2.ok fz&&Zb7 r.2.br fz&&Zln s.F e.fns&&Zld s.F e.als then some r.1 else none
def ZjA(b:AS)(fz:List Nat)(e:ZeJ)(x:ElR e.roots):AS:=
 let r:=Zdv e.roots x b.nx
 ⟨ZiX (ZiE (fun k=>bif ZcA k e.kept then b.F k else Zhl r.1 k) e.fns) e.als,fun id=>bif ZcA id (Zam b e) then b.H id else Zbw r.2.1 id,r.2.2,fz⟩
def ZjK(s:AS)(k:Nat×Nat×Nat):Option Nat:=match s.F k.1 with
 | .ptr id []=>(match s.H id with
  |some (.var T (.agg c))=>(match c.nth k.2.1 with
   |some (.vw a)=>bif Va (Zmy T k.2.1) k.2.2 then some a else none
   |_=>none)
  |_=>none)
 |_=>none
def ZnM(b s:AS):List (Nat×Nat×Nat)->Bool
 | []=>true
 |k::l=>(match ZjK b k,ZjK s k with
  |some x,some y=>Va x y
  |_,_=>false) &&ZnM b s l
def Zmf(b:AS)(fz:List Nat)(k:Nat×Nat×Nat)(s:AS):AS:=match ZjK b k,ZjK s k,s.F k.1 with
 |some a,some a2, .ptr id []=>(match s.H id,s.H a2,b.H a with
  |some (.var T (.agg c)),some (.vec t xs),some (.vec t0 _)=>bif t0==t&& !Va a2 id&& !Va a id&& !ZcA a fz&& !ZcA a2 fz&& !ZcA id fz then
    {s with H:=Za9 (Za9 (Za9 (Za9 s.H a2 none) id none) a (some (.vec t xs))) id (some (.var T (.agg (c.putNth k.2.1 (.vw a))))) } else s
  |_,_,_=>s)
 |_,_,_=>s
def Zmp(b:AS)(fz:List Nat):List (Nat×Nat×Nat)->AS->AS
 | [],s=>s
 |k::l,s=>Zmp b fz l (Zmf b fz k s)
def Znl(b:AS):List Nat->(Nat->AV)->Nat->AV
 | [],F=>F
 |n::l,F=>Znl b l (Zg4 F n (b.F n))
def ZeB(b:AS)(fz:List Nat)(e:ZeJ)(s:AS):Option (ElR e.roots):=bif ZnM b s e.kf then Zke fz e s else none
def ZhU(b:AS)(fz:List Nat)(e:ZeJ)(x:ElR e.roots):AS:=
 let s:=Zmp b (Zam b e) e.kf (ZjA b fz e x)
 ⟨Znl b e.kv s.F,s.H,s.nx,fz⟩
abbrev ZeD:=List (Ex×ZeJ)
@[reducible] def Zdr:ZeD->Type
 | []=>Empty
 | [e]=>ElR e.2.roots
 |e::f::l=>ElR e.2.roots ⊕ Zdr (f::l)
def Zdq(b:AS)(fz:List Nat): (J:ZeD)->Ex->AS->Option (Zdr J)
 | [],_,_=>none
 | [e],x,s=>bif x.beq e.1 then ZeB b fz e.2 s else none
 |e::f::l,x,s=>bif x.beq e.1 then(ZeB b fz e.2 s).bind fun y=>some (.inl y) else(Zdq b fz (f::l) x s).bind fun y=>some (.inr y)
def Zdw{ρ:Type}(b:AS): (J:ZeD)->Zdr J->(Ex->AS->Option ρ)->Option ρ
 | [],_,_=>none
 | [e],y,k=>k e.1 (ZhU b b.fz e.2 y)
 |e::f::l,y,k=>match y with
  | .inl y=>k e.1 (ZhU b b.fz e.2 y)
  | .inr y=>Zdw b (f::l) y k
def ZeJ.slots(e:ZeJ):List Nat:=e.roots.map Vb++e.fns.map Vb++e.kept
def ZbM(e:ZeJ):ZeD->Bool
 | []=>true
 |f::l=>f.2.kept.all (fun n=>ZcA n e.kept) &&f.2.kv.all (fun n=>ZcA n e.kv) &&Zcy f.2.slots&&ZbM e l
inductive Ze9 where
 |leaf
 |seq (a b:Ze9)
 |cnd (J:Option (ZeJ×ZeD)) (a b:Ze9)
 |lp (e:ZeJ) (J:ZeD) (h:Ze9)
 |lpd (it:Nat) (e:ZeJ) (J:ZeD) (h:Ze9)
 |reg (outs:List (Nat×Ty))
 |all (n:Nat)
def Ze9.l:Ze9->Ze9
 | .seq a _=>a
 | .cnd _ a _=>a
 | .all n=> .all n
 |_=> .leaf
def Ze9.r:Ze9->Ze9
 | .seq _ b=>b
 | .cnd _ _ b=>b
 | .all n=> .all n
 |_=> .leaf
def Ze9.join:Ze9->Option (ZeJ×ZeD)
 | .cnd J _ _=>J
 |_=>none
def Ze9.outs:Ze9->Option (List (Nat×Ty))
 | .reg l=>some l
 |_=>none
def ZdO(it:Nat)(s:AS):Nat:=match s.F it with
 | .ptr id []=>(match s.H id with
  |some (.rng _ _ rest _)=>bif rest.isEmpty then 1 else rest.length
  |_=>1)
 |_=>1
def Ziu(E:Env)(ops:Array Oper)(it i:Nat)(ρ:Type)(s:AS)(k:AS->Option ρ):Option ρ:=
 match ops.toList.zipIdx with
 | []=>none
 | (o,_)::l=>(match o.op,o.guard,o.dst with
  | .next (.tmp it') false,none,some d=>bif Va it' it&&ZcX E (some d) then(match s.F it with
   | .ptr id []=>(match s.H id with
    |some (.rng kt vt rest _)=>bif ZcA id s.fz then none else
      bif rest.isEmpty then ZdF E ops s.nx s.fz ρ l (ZdJ s.F (some d) (.tup (.cons (.d .bool false) .nil))) s.H [] fun F H _=>k ⟨F,H,s.nx+ops.size*E.stp,s.fz⟩
      else(rest[i]?).bind fun e=>ZdF E ops s.nx s.fz ρ l (ZdJ s.F (some d) (.tup (.cons (.d .bool true) (.cons (.d kt e.1) (.cons (.d vt e.2) .nil)))))
       (Za9 s.H id (some (.rng kt vt (rest.eraseIdx i) (some e)))) [] fun F H _=>k ⟨F,H,s.nx+ops.size*E.stp,s.fz⟩
    |_=>none)
   |_=>none) else none
  |_,_,_=>none)
def ZnI{ρ:Type}(f:AS->(Ex->AS->Option ρ)->Option ρ)(k:Ex->AS->Option ρ):Nat->AS->Option ρ
 |0,_=>none
 |n+1,s=>f s fun e s' =>match e with
  | .normal=>ZnI f k n s'
  |e=>k e s'
noncomputable def ZaQ:Code->Ze9->Env->(ρ:Type)->AS->(Ex->AS->Option ρ)->Option ρ
 | .skip,_,_,_,s,k=>k .normal s
 | .label _,_,_,_,s,k=>k .normal s
 | .scope c,h,E,ρ,s,k=>ZaQ c h E ρ s fun e s' =>match e with
  | .jump _=>none
  |e=>k e s'
 | .goto l,_,_,_,s,k=>k (.jump l) s
 | .region _ ops draw,h,E,ρ,s,k=>Zh8 E ops draw h.outs ρ s (k .normal)
 | .seq a b,h,E,ρ,s,k=>ZaQ a h.l E ρ s fun e s' =>match e with
  | .normal=>ZaQ b h.r E ρ s' k
  |e=>k e s'
 | .cond c a b,h,E,ρ,s,k=>match aev s.F c with
  | .d .bool t=>(match h.join with
   |none=>bif t then ZaQ a h.l E ρ s k else ZaQ b h.r E ρ s k
   |some (e,J)=>bif ZcW s e.kept&&ZbM e J then
     (let s1:AS:= {s with fz:=Zam s e}
      bif t then ZaQ a h.l (Zbb E e) (Zdr J) s1 (Zdq s (Zam s e) J) else ZaQ b h.r (Zbb E e) (Zdr J) s1 (Zdq s (Zam s e) J)).bind fun o=>Zdw s J o k
    else none)
  |_=>none
 | .block id c,h,E,ρ,s,k=>ZaQ c h E ρ s fun e s' =>match e with
  | .exit i=>bif Va i id then k .normal s' else k (.exit i) s'
  |e=>k e s'
 | .loop c,h,E,ρ,s,k=>match h with
  | .all n=>ZnI (fun s k=>ZaQ c (.all n) E ρ s k) k n s
  | .lp en J hb=>bif ZcW s en.kept&&ZbM en J&&Zcy en.slots then
    (ZeB s (Zam s en) en s).bind fun x=>(run (fun y=>ZaQ c hb (Zbb E en) (ElR en.roots ⊕ Zdr J) (ZhU s (Zam s en) en y) fun e s' =>match e with
     | .normal=>(ZeB s (Zam s en) en s').bind fun z=>some (.inl z)
     |e=>(Zdq s (Zam s en) J e s').bind fun z=>some (.inr z)) x).bind fun o=>Zdw s J o k
   else none
  | .lpd it en J hb=>(match c with
   | .seq (.region _ ops false) c2=>bif ZcW s en.kept&&ZbM en J&&Zcy en.slots then
     (ZeB s (Zam s en) en s).bind fun x=>drun (fun y=>ZdO it (ZhU s (Zam s en) en y)) (fun y i=>Ziu (Zbb E en) ops it i (ElR en.roots ⊕ Zdr J) (ZhU s (Zam s en) en y) fun s1=>ZaQ c2 hb (Zbb E en) (ElR en.roots ⊕ Zdr J) s1 fun e s' =>match e with
      | .normal=>(ZeB s (Zam s en) en s').bind fun z=>some (.inl z)
      |e=>(Zdq s (Zam s en) J e s').bind fun z=>some (.inr z)) (fun o=>Zdw s J o k) x
    else none
   |_=>none)
  |_=>none
 | .exit id,_,_,_,s,k=>k (.exit id) s
 | .ret,_,_,_,s,k=>k .ret s
 |_,_,_,_,_,_=>none
def AVs.toF:AVs->Nat->AV
 | .nil,_=>ZdA
 | .cons v _,0=>v
 | .cons _ l,n+1=>l.toF n
mutual
def Pat.back:Pat->Bool
 | .own _ k=>k
 | .var _ _=>true
 | .map _ _=>true
 | .rows _ k=>k
 | .mrows _ _=>true
 | .bld _ _ k=>k
 | .agg l=>l.back
 | .fn _ l=>l.back
 |_=>false
def ZaS.back:ZaS->Bool
 | .nil=>false
 | .cons p l=>p.back||l.back
end
mutual
def ZmU: (p:Pat)->ElP p
 | .pd t=>zeroEl t
 | .own _ _=>[]
 | .var _ p=>ZmU p
 | .ro t=>zeroEl t
 | .map _ _=>[]
 | .rows _ _=>[]
 | .mrows _ _=>[]
 | .it _ _=>[]
 | .bld _ _ _=>[]
 | .agg l=>ZkT l
 | .fn _ l=>ZkT l
 | .nilr=>()
 | .nils=>()
 | .any=>()
def ZkT: (l:ZaS)->Zce l
 | .nil=>()
 | .cons p l=>(ZmU p,ZkT l)
end
mutual
def Zml: (p:Pat)->ZjT p
 | .own _ true=>[]
 | .own _ false=>()
 | .var _ p=>ZmU p
 | .map _ _=>[]
 | .rows _ true=>[]
 | .rows _ false=>()
 | .mrows _ _=>[]
 | .it _ _=>()
 | .bld _ _ true=>[]
 | .bld _ _ false=>()
 | .agg l=>ZhY l
 | .fn _ l=>ZhY l
 | .pd _=>()
 | .ro _=>()
 | .nilr=>()
 | .nils=>()
 | .any=>()
def ZhY: (l:ZaS)->Zbx l
 | .nil=>()
 | .cons p l=>(Zml p,ZhY l)
end
def Zlh:Pat->AV->Bool
 | .pd t,v=>v.fits t
 | .own t _,v=>v.fits (.sl t)
 | .rows t _,v=>v.fits (.sl (.sl t))
 | .agg _,_=>true
 | .fn _ _,_=>true
 | .any,_=>false
 | .nils,v=>v.fits (.sl .unit)
 |_,v=>v.fits .ref
mutual
def Zcd: (p:Pat)->AV->Acc (ZjT p×Ids)
 | .own t true, .vw id=> .getH id fun
  |some (.vec t' xs)=> .opt (Zay (.sl t') (.sl t) xs) fun y=> .ret (y,⟨[id],[]⟩)
  |_=> .fail
 | .own _ false,_=> .ret ((),Ids.none)
 | .var t p, .ptr id []=> .getH id fun
  |some (.var t' c)=>bif t' ==t&&p.fits t then(ext p c).bind fun r=> .ret (r.1,⟨id::r.2.tk,r.2.br⟩) else .fail
  |_=> .fail
 | .map kt vt, .mp id=> .getH id fun
  |some (.map k e m)=> .opt (Zay (.sl (.prod k e)) (.sl (.prod kt vt)) m) fun y=> .ret (y,⟨[id],[]⟩)
  |_=> .fail
 | .rows t true, .vw id=> .getH id fun
  |some (.rows t' xs _ none)=> .opt (Zay (.sl (.sl t')) (.sl (.sl t)) xs) fun y=> .ret (y,⟨[id],[]⟩)
  |_=> .fail
 | .rows _ false,_=> .ret ((),Ids.none)
 | .mrows kt t, .mp id=> .getH id fun
  |some (.mrows k t' m _ none)=> .opt (Zay (.sl (.prod k (.sl t'))) (.sl (.prod kt (.sl t))) m) fun y=> .ret (y,⟨[id],[]⟩)
  |_=> .fail
 | .it _ _,_=> .ret ((),Ids.none)
 | .bld T e true, .ptr id []=> .getH id fun
  |some (.bld T' e' bs)=>bif Va T' T&&Va e' e then .ret (bs,⟨[id],[]⟩) else .fail
  |_=> .fail
 | .bld _ _ false,_=> .ret ((),Ids.none)
 | .agg l, .agg vs=>ZeW l vs
 | .fn f l, .fn f' vs=>bif Va f' f then ZeW l vs else .fail
 | .pd _,_=> .ret ((),Ids.none)
 | .ro _,_=> .ret ((),Ids.none)
 | .nilr,_=> .ret ((),Ids.none)
 | .nils,_=> .ret ((),Ids.none)
 | .any,_=> .ret ((),Ids.none)
 |_,_=> .fail
def ZeW: (l:ZaS)->AVs->Acc (Zbx l×Ids)
 | .nil, .nil=> .ret ((),Ids.none)
 | .cons p l, .cons v vs=>bif Zlh p v then(Zcd p v).bind fun x=>(ZeW l vs).bind fun y=> .ret ((x.1,y.1),x.2.app y.2) else .fail
 |_,_=> .fail
end
def ZfW: (l:ZaS)->AVs->Acc (Zbx l×Ids)
 | .nil,_=> .ret ((),Ids.none)
 | .cons p l, .cons v vs=>bif p.back then(Zcd p v).bind fun x=>(ZfW l vs).bind fun y=> .ret ((x.1,y.1),x.2.app y.2)
   else(ZfW l vs).bind fun y=> .ret ((Zml p,y.1),y.2)
 |_,_=> .fail
def Zd0(E:Env)(s:AS):List ResultVar->Acc AVs
 | []=> .ret .nil
 | .tmp t::l=>(Zd0 E s l).bind fun vs=> .ret (.cons (s.F t) vs)
 | .cell a T::l=> .opt (E.ty T) fun t=>(match s.F a with
  | .ptr id p=> .getH id fun
   |some (.var _ c)=>(Ze3 c p).bind fun v=>bif v.fits t&&v.solid then(Zd0 E s l).bind fun vs=> .ret (.cons v vs) else .fail
   |_=> .fail
  |_=> .fail)
def ZaP:ZaS->Nat->List Nat
 | .nil,_=>[]
 | .cons p l,n=>(bif p.back then [n] else [])++ZaP l (n+1)
def ZaS.len:ZaS->Nat
 | .nil=>0
 | .cons _ l=>l.len+1
def Zfr(F:Nat->AV):ZaS->Nat->AVs
 | .nil,_=> .nil
 | .cons _ l,n=> .cons (F n) (Zfr F l (n+1))
def Zeg(E:Env)(results:Array ResultVar)(args res:ZaS)(fz:List Nat)(e:Ex)(s:AS):Option (Zbx args×Zce res):=
 match e with
 | .exit _=>none
 | .jump _=>none
 |_=>((Zd0 E s results.toList).bind fun vs=>(Zdt res vs).bind fun r=>(ZfW args (Zfr s.F args 0)).bind fun o=> .ret ((o.1,r.1),o.2.app r.2)).runK s.H [] fun r _=>
   bif r.2.ok fz&&Zb7 r.2.br fz then some r.1 else none
def Zgk(ks:List Nat)(av:AVs)(H0:AH)(s:AS):List (Nat×Nat×Nat)->Bool
 | []=>true
 |k::l=>(match av.nth k.1,s.F k.1 with
  |some (.ptr id []), .ptr id' []=>(match H0 id,s.H id' with
   |some (.var T (.agg c)),some (.var T' (.agg c'))=>(match c.nth k.2.1,c'.nth k.2.1 with
    |some (.vw a),some (.vw b)=>Va a b&&T' ==T&&Va (Zmy T k.2.1) k.2.2&&ZcA k.1 ks
    |_,_=>false)
   |_,_=>false)
  |_,_=>false) &&Zgk ks av H0 s l
noncomputable def ZgO(E:Env)(body:Code)(results:Array ResultVar)(h:Ze9)(args res:ZaS){α:Type}(pack:Zbx args×Zce res->α)(x:Zce args)(kp:List (Nat×Nat×Nat):=[]):Option α:=
 let r:=Zbj args x 0
 ZaQ body h {E with ks:=ZaP args 0} α ⟨r.1.toF,Zbw r.2.1,r.2.2,[]⟩ fun e s=>
  (Zeg E results args res [] e s).bind fun y=>bif Zgk (ZaP args 0) r.1 (Zbw r.2.1) s kp then some (pack y) else none
def mkE(tys:List (Nat×Ty))(ms:List (Nat×Ty×Ty))(pks:List (Nat×Nat))(rws zxs:List Nat)(m:List (Nat×List Spec))(nt:Nat)(bds:List (Nat×Nat):=[]):Env:=
 {ty:=fun n=>tys.lookup n,mty:=fun n=>ms.lookup n,pk:=fun n=>(pks.lookup n).getD 0,rw:=fun n=>rws.contains n,zx:=fun n=>zxs.contains n,bd:=fun n=>bds.lookup n,specs:=fun n=>(m.lookup n).getD [],nt:=nt,ks:=[] }
def Zbc(f:Func):Code:=match f.body with
 |some b=>b
 |none=> .skip
end Tr
