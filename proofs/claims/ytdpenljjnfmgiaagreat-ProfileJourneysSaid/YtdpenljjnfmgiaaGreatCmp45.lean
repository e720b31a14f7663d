/- slices.Compact of pairs: under way. Conditions: none. -/
import Derived.Test.YtdpenljjnfmgiaaGreatProg
import Derived.KernelRfl
import Derived.Test.YtdpenljjnfmgiaaGreatETsF
open Go.IntKind renaming wrap ->Vc
open List renaming length ->Vb,replicate ->Vd,take ->Ve,drop ->Vf
open Option renaming bind ->Va
open Option renaming some ->Ua,none ->Ub
open Bool renaming true ->Uc,false ->Ud
open Decidable renaming decide ->Ue
namespace Tr
open Go Go.Proofs
noncomputable section
abbrev Yp:Ty:=.arr 2 (.int .i64)
def tyC:List (Nat×Ty):=[(3,.int .i64),(4,.bool),(63,.sl Yp),(65,Yp)]
def EC:Ka:=mkE tyC [] [] [] [] [] 61
def ZgT:Code:=match KX Tryz.f63 with|.seq r _=>r|c=>c
def cmA:Code:=match KX Tryz.f63 with|.seq _ (.seq a _)=>a|c=>c
def ZgU:Code:=match KX Tryz.f63 with|.seq _ (.seq _ (.seq (.seq r _) _))=>r|c=>c
def Zal:Code:=match KX Tryz.f63 with|.seq _ (.seq _ (.seq (.seq _ (.block _ (.loop b))) _))=>b|c=>c
def Zbu:Code:=match KX Tryz.f63 with|.seq _ (.seq _ (.seq _ e))=>e|c=>c
def ZgS:Code:=match Zal with|.seq h _=>h|c=>c
def ZgV:Code:=match Zal with|.seq _ (.seq (.block _ (.seq r _)) _)=>r|c=>c
def Zbv:Code:=match Zal with|.seq _ (.seq (.block _ (.seq _ (.cond _ c _))) _)=>c|c=>c
def Zeu:Code:=match Zal with|.seq _ (.seq _ r)=>r|c=>c
def ZgW:Code:=match Zbv with|.seq r _=>r|c=>c
def ZgX:Code:=match Zbv with|.seq _ (.seq (.seq r _) _)=>r|c=>c
def Zes:Code:=match Zbv with|.seq _ (.seq (.seq _ (.block _ (.loop b))) _)=>b|c=>c
def ZcR:Code:=match Zbv with|.seq _ (.seq _ t)=>t|c=>c
abbrev WP:=List (El Yp)
inductive KW where
 |out (xs:WP) (k:Int)
 |inn (xs:WP) (k:Int) (lo n:Nat) (k2:Int)
 |res (xs:WP)
abbrev HI:Pats:=.cons (.own Yp Ud) .nil
abbrev Zev:Pats:=.cons (.pd (.sl Yp)) .nil
def DQ(e:Ex)(s:AS):Option KW:=match e with
 |.ret=>(Yq EC Tryz.f63.results HI Zev [] .ret s).bind fun y=>Ua (.res y.2.1)
 |_=>Ub
def cmO(s:AS):Option KW:=match s.F 0,s.F 3,s.H 0 with
 |.vw 0,.d (.int .i64) k,Ua (.vec (.arr 2 (.int .i64)) xs)=>Ua (.out xs k)
 |_,_,_=>Ub
def cmI(s:AS):Option KW:=match s.F 0,s.F 3,s.F 4,s.F 5,s.H 0 with
 |.vw 0,.d (.int .i64) k,.vs 0 b n,.d (.int .i64) a,Ua (.vec (.arr 2 (.int .i64)) xs)=>Ua (.inn xs k b n a)
 |_,_,_,_,_=>Ub
def Zkn(xs:WP):Option KW:=
 Kp ZgT .leaf EC KW ⟨(Kc HI (xs,()) 0).1.toF,WH (Kc HI (xs,()) 0).2.1,(Kc HI (xs,()) 0).2.2,[]⟩ fun e s=>match e with
  |.normal=>Kp cmA .leaf EC KW s fun e s=>match e with
   |.normal=>Kp ZgU .leaf EC KW s fun e s=>match e with
    |.normal=>cmO s
    |_=>Ub
   |.ret=>DQ .ret s
   |_=>Ub
  |_=>Ub
def Zex(xs:WP)(k:Int)(nx:Nat):AS:=⟨fun t=>match t with|0=>.vw 0|3=>.d (.int .i64) k|_=>.junk,fun k=>bif Nat.beq k 0 then Ua (.vec Yp xs) else Ub,nx,[]⟩
def Zew(xs:WP)(k:Int)(lo n:Nat)(k2:Int)(nx:Nat):AS:=⟨fun t=>match t with|0=>.vw 0|3=>.d (.int .i64) k|4=>.vs 0 lo n|5=>.d (.int .i64) k2|_=>.junk,fun k=>bif Nat.beq k 0 then Ua (.vec Yp xs) else Ub,nx,[]⟩
def Zkj(xs:WP)(k:Int)(nx:Nat):Option KW:=
 Kp ZgS .leaf EC KW (Zex xs k nx) fun e s=>match e with
  |.exit 0=>Kp Zbu .leaf EC KW s DQ
  |.normal=>Kp ZgV .leaf EC KW s fun e s=>match e with
   |.normal=>(match s.F 25 with
    |.d .bool t=>bif t then Kp ZgW .leaf EC KW s fun e s=>match e with
      |.normal=>Kp ZgX .leaf EC KW s fun e s=>match e with
       |.normal=>cmI s
       |_=>Ub
      |_=>Ub
     else Kp Zeu .leaf EC KW s fun e s=>match e with
      |.normal=>cmO s
      |_=>Ub
    |_=>Ub)
   |_=>Ub
  |_=>Ub
def Zrb(xs:WP)(k:Int)(lo n:Nat)(k2:Int)(nx:Nat):Option KW:=
 Kp Zes .leaf EC KW (Zew xs k lo n k2 nx) fun e s=>match e with
  |.exit 2=>Kp ZcR .leaf EC KW s DQ
  |.normal=>cmI s
  |_=>Ub
def eqP(a b:El Yp):Option Bool:=Tr.eqEl Yp a b
def Zko(xs:WP):Option KW:=bif Ue ((↑(Vb xs):Int)<(2:Int)) then Ua (.res xs) else Ua (.out xs (1:Int))
def Zkk(xs:WP)(k:Int):Option KW:=
 bif Ue (k<(↑(Vb xs):Int)) then
  Va (Zs k (Vb xs)) fun b=>
   Va xs[b]? fun c=>
    Va (Zs (Vc .i64 (k - (1:Int))) (Vb xs)) fun d=>
     Va xs[d]? fun e=>
      Va (eqP c e) fun f=>
       bif f then Va (sliceB (Vb xs) (Vb xs) (Ua k) Ub) fun a=>Ua (KW.inn xs k a.1 (a.2 - a.1) (1:Int))
       else Ua (KW.out xs (Vc .i64 (k+(1:Int))))
 else Ua (KW.res xs)
def Zkh(xs:WP)(k:Int)(lo n:Nat)(k2:Int):Option KW:=
 bif Ue (k2<(↑n:Int)) then
  Va (Zz (Ue (lo+n<=Vb xs))) fun _=>
   Va (Zs k2 n) fun d=>
    Va xs[lo+d]? fun e=>
     Va (Zz (Ue (lo+n<=Vb xs))) fun _=>
      Va (Zs (Vc .i64 (k2 - (1:Int))) n) fun f=>
       Va xs[lo+f]? fun g=>
        Va (eqP e g) fun h=>
         bif !h then
          Va (Zz (Ue (lo+n<=Vb xs))) fun _=>
           Va (Zs k2 n) fun i=>
            Va xs[lo+i]? fun j=>
             Va (Zs k (Vb xs)) fun b=>
              Va xs[b]? fun _=>
               Ua (KW.inn (List.set xs b j) (Vc .i64 (k+(1:Int))) lo n (Vc .i64 (k2+(1:Int))))
         else Ua (KW.inn xs k lo n (Vc .i64 (k2+(1:Int))))
 else
  Va (sliceB (Vb xs) (Vb xs) (Ua k) Ub) fun a=>
   Va (Zz (Ue (a.1+(a.2 - a.1)<=Vb xs))) fun _=>
    Va
     (sliceB (Vb (Ve a.1 xs++Vd (a.2 - a.1) (zeroEl Yp)++Vf (a.1+(a.2 - a.1)) xs))
       (Vb (Ve a.1 xs++Vd (a.2 - a.1) (zeroEl Yp)++Vf (a.1+(a.2 - a.1)) xs)) Ub (Ua k))
     fun c=>
     Ua (KW.res (Ve c.2 (Vf (0:Nat) (Ve a.1 xs++Vd (a.2 - a.1) (zeroEl Yp)++Vf (a.1+(a.2 - a.1)) xs))))
theorem Zre(xs:WP):Zkn xs=Zko xs:=by kernel_rfl
theorem Zrd(xs:WP)(k:Int)(nx:Nat):Zkj xs k nx=Zkk xs k:=by kernel_rfl
theorem Zrc(xs:WP)(k:Int)(lo n:Nat)(k2:Int)(nx:Nat):Zrb xs k lo n k2 nx=Zkh xs k lo n k2:=by kernel_rfl
def Hh:Nat->KW->Option WP
 |_,.res xs=>Ua xs
 |0,_=>Ub
 |m+1,.out xs k=>(Zkk xs k).bind (Hh m)
 |m+1,.inn xs k b n a=>(Zkh xs k b n a).bind (Hh m)
def cmF(xs:WP):Option WP:=(Zko xs).bind (Hh 100)
theorem HY:Z3 Tryz.prog EC:=typesOk_of (pks:=[]) (bds:=[]) (show HT Tryz.prog tyC [] [] []=Uc by kernel_rfl) rfl rfl rfl rfl fun _ h=>absurd (show Ud=Uc from h) (by decide)
end
end Tr
