/- More functions of the program as functions of Lean, and that the program computes them; printed by a program of mine. Conditions: none. -/
import Derived.Test.YtdpenljjnfmgiaaGreatDep45
import Derived.Test.YtdpenljjnfmgiaaGreatETsF
import Derived.Test.YtdpenljjnfmgiaaGreatCmq45
import Derived.Test.YtdpenljjnfmgiaaGreatCln45
import Derived.Test.YtdpenljjnfmgiaaGreatClo45
import Derived.Test.YtdpenljjnfmgiaaGreatFmt45
import Derived.Test.YtdpenljjnfmgiaaGreatUse45
import Derived.Test.YtdpenljjnfmgiaaGreatLen45
import Derived.Test.YtdpenljjnfmgiaaGreatLay45
open Tr Go Go.Proofs Tryz
open Int renaming toNat ->Vk,tdiv ->Vm
open Go.IntKind renaming wrap ->Vc
open List renaming length ->U,set ->Vd,take ->Vg,replicate ->Vh,drop ->Vi,isEmpty ->Vl
open Option renaming bind ->J,getD ->Ve,isSome ->Vj
open Sum renaming elim ->Vf
open Option renaming some ->C,none ->Ub
open Bool renaming true ->Uc,false ->Ud
open Decidable renaming decide ->R
namespace Q
noncomputable section
abbrev Jk:Ty:=.prod Xa .unit
abbrev JY:Ty:=.prod Y3 (.prod Y3 (.prod Y3 (.prod Y3 (.prod Y3 .unit))))
abbrev HC:Ty:=.prod Y3 (.prod Y3 (.prod Y3 (.prod Y3 .unit)))
abbrev Xb:Ty:=.sl HC
abbrev Wy:Ty:=.prod Jk (.prod JY (.prod Xb .unit))
abbrev GB:Ty:=.sl Wy
abbrev Y43:Ty:=.sl JY
abbrev Ym:Ty:=.arr 2 Y3
abbrev Y63:Ty:=.sl Ym
abbrev Y73:Ty:=.prod Y3 (.prod Y3 .unit)
abbrev Y97:Ty:=.arr 3 Y3
abbrev X4:Ty:=.arr 3 Y3
abbrev ZoL:Ty:=.sl Jk
abbrev Rs:Ty:=.prod Y4 (.prod Y3 (.prod Xb .unit))
abbrev ZoM:Ty:=.sl Rs
abbrev XI:Ty:=.arr 4 Y3
abbrev KP:Ty:=.prod Y3 (.prod Y3 (.prod ZI .unit))
abbrev Zd3:Ty:=.prod Y4 (.prod Y3 (.prod Y3 (.prod HC .unit)))
abbrev JB:Ty:=.arr 9 Zd3
abbrev Zgm:Ty:=.sl KP
abbrev G5:Ty:=.prod Y9 (.prod Y3 (.prod Y3 .unit))
abbrev ZoN:Ty:=.ref
abbrev ZoO:Ty:=.ref
abbrev ZoP:Ty:=.ref
abbrev ZoQ:Ty:=.ref
abbrev ZoR:Ty:=.ref
abbrev Yl:Ty:=.prod Y3 (.prod Y3 (.prod Y4 .unit))
abbrev ZoS:Ty:=.ref
abbrev ZoT:Ty:=.ref
abbrev He:Ty:=.prod Y3 (.prod Y3 (.prod Y3 .unit))
abbrev Rv:Ty:=.sl He
abbrev ZoU:Ty:=.ref
abbrev X3:Ty:=.prod Y3 (.prod Y3 (.prod Y3 .unit))
abbrev Zcz:Ty:=.sl X3
abbrev Zje:Ty:=.ref
abbrev ZcA:Ty:=.prod X3 (.prod Y3 .unit)
abbrev Zjf:Ty:=.sl ZcA
abbrev Zgn:Ty:=.prod Zje (.prod Zjf (.prod Y3 .unit))
def tyTabH:List (Nat×Ty):=[(3,Y3),(4,Y4),(9,Y9),(128,Zab),(22,Xn),(130,Zac),(23,Xo),(145,G4),(76,Xc),(78,XJ),(24,Rt),(199,YS),(25,Ru),(141,K8),(26,Wx),(133,JX),(27,HD),(29,KL),(31,Zh),(33,Zk),(35,ZI),(82,KZ),(46,Xa),(48,Jk),(50,JY),(118,HC),(51,Xb),(53,Wy),(38,GB),(43,Y43),(65,Ym),(63,Y63),(73,Y73),(143,Zcx),(85,H6),(87,Jl),(206,JK),(173,WS),(207,DJ),(92,Wn),(94,Y94),(91,Y91),(89,Wm),(97,Y97),(98,X4),(107,ZoL),(111,Wl),(153,ZC),(154,Zbd),(156,Zad),(177,Rs),(175,ZoM),(180,XI),(184,H5),(189,KP),(209,Zd2),(212,Ww),(215,KQ),(222,Zd3),(223,JB),(249,Zjd),(251,Zgm),(255,G5),(252,ZoN),(256,ZoO),(257,ZoP),(258,ZoQ),(261,ZoR),(309,Yl),(307,ZoS),(324,ZoT),(327,He),(325,Rv),(332,ZoU),(343,X3),(335,Zcz),(346,Zje),(356,ZcA),(352,Zjf),(354,Zgn)]
def mapTabH:List (Nat×Ty×Ty):=[(249,Y9,Y4),(252,G5,Y4),(256,Y3,Y3),(257,Y3,Y4),(258,XI,Y4),(261,K8,Y4),(307,Yl,Y4),(324,Yl,Y3),(332,Y3,Rv)]
def pkTabH:List (Nat×Nat):=[(91,1),(92,1),(344,1),(346,2)]
def bdTabH:List (Nat×Nat):=[]
theorem tab_okH:HT Tryz.prog tyTabH mapTabH pkTabH bdTabH=true:=by kernel_rfl
def Wf(i:Nat)(fn:Func)(nt:Nat)(l:List Zn)(hint:K3)(args res:Pats){α:Type}(f:Ks args->Option α)(unp:α->We args×Ks res)(pack:We args×Ks res->α)(rws zxs:List Nat:=[])(fns:List FuncId:=[])(pl:Bool:=true)(kp:List (Nat×Nat×Nat):=[])
    (d:∀x z,f x=C z->XO (mkE tyTabH mapTabH pkTabH rws zxs (Dk l) nt bdTabH) (KX fn) fn.results hint args res pack x kp=C z:=by intro x z h;exact .trans (by kernel_rfl) h)
    (m:Tryz.prog.funcs[i]? =some fn:=by kernel_rfl) (k:fn.body=some (KX fn):=by kernel_rfl) (e:nt=fn.ntmps:=by kernel_rfl) (a:(fn.name== "runtime.NumGoroutine")=false:=by kernel_rfl)
    (j:args.wf=true:=by kernel_rfl) (c:Nat.ble args.len nt=true:=by kernel_rfl) (b:∀y,unp (pack y)=y:=by intro y;rfl) (g:(!pl|| (Dk l).all fun p=>p.2.all (·.pl))=true:=by kernel_rfl):Zn:=
 ⟨i, {args,res,fns,α,f,unp,pl,kp},WZ K9 tab_okH (Zh6 l) d m k e a j c b g⟩
def ZZ(i:Nat)(fn:Func)(nt:Nat)(l:List Zn)(hint:K3)(args:Pats)(r:Pat)(f:Ks args->Option (K2 r))(rws zxs:List Nat:=[])(fns:List FuncId:=[])(pl:Bool:=true)(u:We args:=by repeat' constructor)
    (d:∀x z,f x=C z->XO (mkE tyTabH mapTabH pkTabH rws zxs (Dk l) nt bdTabH) (KX fn) fn.results hint args (Pats.cons r .nil) (fun y:We args×Ks (Pats.cons r .nil)=>(y.2.1:K2 r)) x []=C z:=by intro x z h;exact .trans (by kernel_rfl) h)
    (m:Tryz.prog.funcs[i]? =some fn:=by kernel_rfl) (k:fn.body=some (KX fn):=by kernel_rfl) (e:nt=fn.ntmps:=by kernel_rfl) (a:(fn.name== "runtime.NumGoroutine")=false:=by kernel_rfl)
    (j:args.wf=true:=by kernel_rfl) (c:Nat.ble args.len nt=true:=by kernel_rfl) (b:∀y:We args,u=y:=by intro y;rfl) (g:(!pl|| (Dk l).all fun p=>p.2.all (·.pl))=true:=by kernel_rfl):Zn:=
 Wf i fn nt l hint args (.cons r .nil) f (fun z=>(u,(z,()))) (fun y=>y.2.1) rws zxs fns pl [] d m k e a j c (fun y=>by rw[b y.1]) g
abbrev Pz5:Pat:=.agg (.cons (.fn 269 .nil) (.cons (.own ZcA Uc) (.q Y3)))
abbrev Rq:Pat:=.var Zgn Pz5
abbrev Pz3:Pat:=.agg (.cons (.fn 269 .nil) (.cons (.own ZcA Ud) (.cons (.pd Y3) .nil)))
abbrev R9:Pat:=.var Zgn Pz3
abbrev YR:=Unit×List (El ZcA) ×El Y3×Unit
def F185:(El Xn)->Option (El Y3×El ZI):=fun b=>
 bif R ((64:Int)<(↑(U b):Int)) then C ((0:Int),(5:Int))
 else
 J
 (run
 (fun s0=>
 bif R (s0.2<(↑(U b):Int)) then
 J (idx b s0.2) fun a=>
 J (F51 a.1) fun d=>
 bif !d then C (.inr (.inr (s0.2,(12:Int))))
 else
 bif Ve (ZT (Zm Y9) a.1 s0.1) (Ud) then C (.inr (.inr (s0.2,(6:Int))))
 else
 J
 (bif R (a.2.1<(0:Int)) then C Uc
 else
 bif R ((16:Int)<=a.2.1) then C Uc
 else bif R (a.2.2.2.1<(0:Int)) then C Uc else C (R ((3600:Int)<a.2.2.2.1)))
 fun e=>
 bif e then C (.inr (.inr (s0.2,(2:Int))))
 else C (.inl (Kn (Zm Y9) a.1 Uc s0.1,Vc .i64 (s0.2+(1:Int))))
 else C (.inr (.inl ())))
 ([],(0:Int)))
 fun f=>Vf (fun _=>C ((0:Int),(0:Int))) (fun c=>C (c.1,c.2)) f
def F185E:Zn:=Wf 107 f107 54 [F51E] (hS (hS (hS (.seq (hS (.lp (en [(4,.map Y9 Y4),pd 13 Y3] [11,12]) [(.exit 0,e0),(.ret,en [pd 2 Y3,pd 3 ZI] [])] (hS (hS (.seq (hS (.seq (hS (.cnd Ub .leaf (hS (.cnd Ub .leaf (.seq (.reg [(30,Y4)]) .leaf))))) .leaf)) .leaf))))) .leaf)))) (.q Xn) (.p Y3 (.q ZI)) (u1 F185) (fun z=>(((),()),(z.1,z.2,()))) (fun y=>(y.2.1,y.2.2.1))
def F160:(El Y3)->Option (El Y4):=fun a=>J (bif R ((0:Int)<=a) then C (R (a<(8:Int))) else C Ud) fun b=>C b
def F160E:Zn:=ZZ 176 f176 9 [] (hS (.seq (.reg [(2,Y4)]) .leaf)) (.q Y3) (.pd Y4) (u1 F160)
def F159:(El Xo)->Option (El Y3×El ZI):=fun b=>
 bif R ((64:Int)<(↑(U b):Int)) then C ((0:Int),(5:Int))
 else
 J
 (run
 (fun s0=>
 bif R (s0.2<(↑(U b):Int)) then
 J (idx b s0.2) fun a=>
 J (F51 a.1) fun d=>
 bif !d then C (.inr (.inr (s0.2,(12:Int))))
 else
 bif Ve (ZT (Zm Y9) a.1 s0.1) (Ud) then C (.inr (.inr (s0.2,(6:Int))))
 else
 J (F160 a.2.1) fun e=>
 bif !e then C (.inr (.inr (s0.2,(2:Int))))
 else C (.inl (Kn (Zm Y9) a.1 Uc s0.1,Vc .i64 (s0.2+(1:Int))))
 else C (.inr (.inl ())))
 ([],(0:Int)))
 fun f=>Vf (fun _=>C ((0:Int),(0:Int))) (fun c=>C (c.1,c.2)) f
def F159E:Zn:=Wf 108 f108 37 [F51E,F160E] (hS (hS (hS (.seq (hS (.lp (en [(4,.map Y9 Y4),pd 13 Y3] [11,12]) [(.exit 0,e0),(.ret,en [pd 2 Y3,pd 3 ZI] [])] .leaf)) .leaf)))) (.q Xo) (.p Y3 (.q ZI)) (u1 F159) (fun z=>(((),()),(z.1,z.2,()))) (fun y=>(y.2.1,y.2.2.1))
def F70:(El Zgm)->Option (El KP):=fun a=>
 J
 (run
 (fun s0=>
 bif R (s0.2<(↑(U a):Int)) then
 J (idx a s0.2) fun b=>
 bif !R (b.2.2.1=(0:Int)) then C (.inr (.inr b)) else C (.inl (s0.1,Vc .i64 (s0.2+(1:Int))))
 else C (.inr (.inl s0.1)))
 (((0:Int),(0:Int),(0:Int),()),(0:Int)))
 fun c=>Vf (fun _=>C ((0:Int),(0:Int),(0:Int),())) (fun d=>C d) c
def F70E:Zn:=ZZ 109 f109 17 [] (hS (.seq (hS (.lp (en [(2,.var KP (.pd KP)),pd 7 Y3] [5,6]) [(.exit 0,en [(2,.var KP (.pd KP))] []),(.ret,en [(2,.var KP (.pd KP))] [])] .leaf)) .leaf)) (.q Zgm) (.pd KP) (u1 F70)
def F79:(El Y3)->(El Y3)->(El ZI)->Option (El KP):=fun a b c=>C (a,b,c,())
def F79E:Zn:=ZZ 110 f110 11 [] .leaf (.p Y3 (.p Y3 (.q ZI))) (.pd KP) (u3 F79)
def F7:(El Xc)->(El Y3)->(El Y3)->(El Y3)->(El Y3)->Option (El ZI):=fun c b d e f=>
 J (idx c b) fun a=>
 J (bif R (a.1<(0:Int)) then C Uc else C (R (d<=a.1))) fun g=>
 bif g then C (9:Int)
 else
 J
 (bif R ((0:Int)<b) then J (idx c (Vc .i64 (b - (1:Int)))) fun h=>C (R (h.1=a.1))
 else C Ud)
 fun i=>
 bif i then C (13:Int)
 else
 J
 (bif R (a.2.1<e) then C Uc
 else
 bif R (a.2.2.1<a.2.1) then C Uc
 else
 bif R (f<a.2.2.1) then C Uc
 else
 bif R ((0:Int)<b) then
 J (idx c (Vc .i64 (b - (1:Int)))) fun j=>C (R (a.2.1<j.2.2.1))
 else C Ud)
 fun k=>bif k then C (10:Int) else C (0:Int)
def F7E:Zn:=ZZ 219 f219 70 [] (hS (hS (.seq (.seq (.reg [(24,Y4)]) .leaf) (.seq (.seq (.reg [(37,Y4)]) .leaf) (.seq (.seq (.reg [(69,Y4)]) .leaf) .leaf))))) (.p Xc (.p Y3 (.p Y3 (.p Y3 (.q Y3))))) (.pd ZI) (u5 F7)
def F6:(El Xc)->(El Y3)->(El Y3)->(El Y3)->Option (El Y3×El ZI):=fun a e f g=>
 J (bif R ((↑(U a):Int)<(2:Int)) then C Uc else C (R ((32:Int)<(↑(U a):Int)))) fun h=>
 bif h then C ((0:Int),(5:Int))
 else
 J
 (run
 (fun b=>
 bif R (b<(↑(U a):Int)) then
 J (F7 a b e f g) fun c=>
 bif !R (c=(0:Int)) then C (.inr (.inr (b,c))) else C (.inl (Vc .i64 (b+(1:Int))))
 else C (.inr (.inl ())))
 (0:Int))
 fun i=>Vf (fun _=>C ((0:Int),(0:Int))) (fun d=>C (d.1,d.2)) i
def F6E:Zn:=Wf 177 f177 36 [F7E] (hS (.seq (.seq (.reg [(19,Y4)]) .leaf) (.seq (hS (.lp (en [pd 22 Y3] [0,1,2,3,21]) [(.exit 0,e0),(.ret,en [pd 8 Y3,pd 9 ZI] [])] .leaf)) .leaf))) (.p Xc (.p Y3 (.p Y3 (.q Y3)))) (.p Y3 (.q ZI)) (u4 F6) (fun z=>(((),(),(),(),()),(z.1,z.2,()))) (fun y=>(y.2.1,y.2.2.1))
def F69:(El Zh)->Option (El KP):=fun c=>
 bif R ((1024:Int)<(↑(U c.2.2.1):Int)) then J (F79 (2:Int) (0:Int) (5:Int)) fun j=>C j
 else
 J
 (run
 (fun b=>
 bif R (b.2.2<(↑(U c.2.2.1):Int)) then
 J (idx c.2.2.1 b.2.2) fun a=>
 J (F51 a.2.2.2.1) fun k=>
 bif !k then J (F79 (2:Int) b.2.2 (12:Int)) fun l=>C (.inr (.inr l))
 else
 J (bif R (a.1<(-1:Int)) then C Uc else C (R (a.2.2.1<(0:Int)))) fun m=>
 bif m then J (F79 (2:Int) b.2.2 (2:Int)) fun n=>C (.inr (.inr n))
 else
 J (bif R (a.2.1<(0:Int)) then C Uc else C (R ((36524:Int)<a.2.1))) fun o=>
 bif o then J (F79 (2:Int) b.2.2 (11:Int)) fun p=>C (.inr (.inr p))
 else
 J
 (bif R (a.2.2.2.2.1<(0:Int)) then C Uc
 else C (R ((↑(U c.2.1):Int)<=a.2.2.2.2.1)))
 fun q=>
 bif q then J (F79 (2:Int) b.2.2 (9:Int)) fun e=>C (.inr (.inr e))
 else
 J (F6 a.2.2.2.2.2.2.2.1 (↑(U c.1):Int) (0:Int) (3155932800:Int)) fun d=>
 bif !R (d.2=(0:Int)) then J (F79 (2:Int) b.2.2 d.2) fun f=>C (.inr (.inr f))
 else
 bif Ve (ZT (Zm G5) (a.2.2.2.1,a.2.1,a.2.2.1,()) b.2.1) (Ud) then
 J (F79 (2:Int) b.2.2 (6:Int)) fun g=>C (.inr (.inr g))
 else
 C
 (.inl
 (b.1,Kn (Zm G5) (a.2.2.2.1,a.2.1,a.2.2.1,()) Uc b.2.1,
 Vc .i64 (b.2.2+(1:Int))))
 else C (.inr (.inl b.1)))
 (((0:Int),(0:Int),(0:Int),()),[],(0:Int)))
 fun h=>Vf (fun _=>C ((0:Int),(0:Int),(0:Int),())) (fun i=>C i) h
def F69E:Zn:=ZZ 111 f111 96 [F79E,F51E,F6E] (hS (hS (hS (.seq (hS (.lp (en [(2,.var KP (.pd KP)),(3,.map G5 Y4),pd 18 Y3] [1,16,17]) [(.exit 0,en [(2,.var KP (.pd KP))] []),(.ret,en [(2,.var KP (.pd KP))] [])] (hS (hS (.seq (hS (.seq (hS (.cnd Ub .leaf (.seq (.reg [(30,Y4)]) (.cnd Ub .leaf (.seq (.reg [(41,Y4)]) (.cnd Ub .leaf (.seq (.reg [(52,Y4)]) .leaf))))))) .leaf)) .leaf))))) .leaf)))) (.q Zh) (.pd KP) (u1 F69)
def F80:(El Y3)->(El Y3)->Option (El Y4):=fun a b=>J (bif R ((0:Int)<=a) then C (R (a<b)) else C Ud) fun c=>C c
def F80E:Zn:=ZZ 178 f178 12 [] (hS (.seq (.reg [(4,Y4)]) .leaf)) (.p Y3 (.q Y3)) (.pd Y4) (u2 F80)
def F78:(List (El Y3×El Y3))->(El Y3)->(El Y3)->Option (List (El Y3×El Y3) ×El Y4):=fun a b c=>
 J
 (run
 (fun s0=>
 bif s0.2 then
 bif R (s0.1=c) then C (.inr (.inr Uc))
 else C (.inl (Ve (ZT (Zm Y3) s0.1 a) ((0:Int)),Vj (ZT (Zm Y3) s0.1 a)))
 else C (.inr (.inl ())))
 (Ve (ZT (Zm Y3) b a) ((0:Int)),Vj (ZT (Zm Y3) b a)))
 fun d=>Vf (fun _=>C (a,Ud)) (fun e=>C (a,e)) d
def F78E:Zn:=Wf 179 f179 25 [] (hS (.seq (hS (.lp (en [pd 7 Y3,pd 8 Y4] [0,2]) [(.exit 0,en [] [0]),(.ret,en [pd 6 Y4] [0])] .leaf)) .leaf)) (.cons (.map Y3 Y3) (.p Y3 (.q Y3))) (.q Y4) (u3 F78) (fun z=>((z.1,(),(),()),(z.2,()))) (fun y=>(y.1.1,y.2.1))
def F67:(El Zh)->Option (El KP):=fun c=>
 bif R ((1024:Int)<(↑(U c.2.2.2.1):Int)) then J (F79 (3:Int) (0:Int) (5:Int)) fun v=>C v
 else
 J
 (run
 (fun b=>
 bif R (b.2.2.2.2<(↑(U c.2.2.2.1):Int)) then
 J (idx c.2.2.2.1 b.2.2.2.2) fun a=>
 J
 (J (F80 a.1 (↑(U c.2.2.1):Int)) fun w=>
 bif !w then C Uc
 else
 J (F80 a.2.2.1 (↑(U c.2.2.1):Int)) fun x=>
 bif !x then C Uc else C (R (a.1=a.2.2.1)))
 fun y=>
 bif y then J (F79 (3:Int) b.2.2.2.2 (9:Int)) fun z=>C (.inr (.inr z))
 else
 J (idx c.2.2.1 a.1) fun s=>
 J (idx c.2.2.1 a.2.2.1) fun u=>
 J
 (J (F80 a.2.1 (↑(U s.2.2.2.2.2.2.2.1):Int)) fun A=>
 bif !A then C Uc
 else J (F80 a.2.2.2.1 (↑(U u.2.2.2.2.2.2.2.1):Int)) fun e=>C !e)
 fun f=>
 bif f then J (F79 (3:Int) b.2.2.2.2 (9:Int)) fun g=>C (.inr (.inr g))
 else
 J (idx s.2.2.2.2.2.2.2.1 a.2.1) fun h=>
 J (idx u.2.2.2.2.2.2.2.1 a.2.2.2.1) fun i=>
 bif !R (h.1=i.1) then J (F79 (3:Int) b.2.2.2.2 (13:Int)) fun j=>C (.inr (.inr j))
 else
 bif a.2.2.2.2.1 then
 bif !R (Vc .i64 (a.2.1+(1:Int))=(↑(U s.2.2.2.2.2.2.2.1):Int)) then
 J (F79 (3:Int) b.2.2.2.2 (19:Int)) fun k=>C (.inr (.inr k))
 else
 bif !R (a.2.2.2.1=(0:Int)) then
 J (F79 (3:Int) b.2.2.2.2 (19:Int)) fun l=>C (.inr (.inr l))
 else
 bif Vj (ZT (Zm Y3) a.1 b.2.1) then
 J (F79 (3:Int) b.2.2.2.2 (19:Int)) fun m=>C (.inr (.inr m))
 else
 bif Ve (ZT (Zm Y3) a.2.2.1 b.2.2.1) (Ud) then
 J (F79 (3:Int) b.2.2.2.2 (19:Int)) fun n=>C (.inr (.inr n))
 else
 J (F78 b.2.1 a.2.2.1 a.1) fun d=>
 bif d.2 then J (F79 (3:Int) b.2.2.2.2 (19:Int)) fun o=>C (.inr (.inr o))
 else
 bif Ve (ZT (Zm XI) [a.1,a.2.1,a.2.2.1,a.2.2.2.1] b.2.2.2.1) (Ud) then
 J (F79 (3:Int) b.2.2.2.2 (6:Int)) fun p=>C (.inr (.inr p))
 else
 bif a.2.2.2.2.1 then
 C
 (.inl
 (b.1,Kn (Zm Y3) a.1 a.2.2.1 d.1,Kn (Zm Y3) a.2.2.1 Uc b.2.2.1,
 Kn (Zm XI) [a.1,a.2.1,a.2.2.1,a.2.2.2.1] Uc b.2.2.2.1,
 Vc .i64 (b.2.2.2.2+(1:Int))))
 else
 C
 (.inl
 (b.1,d.1,b.2.2.1,Kn (Zm XI) [a.1,a.2.1,a.2.2.1,a.2.2.2.1] Uc b.2.2.2.1,
 Vc .i64 (b.2.2.2.2+(1:Int))))
 else
 bif Ve (ZT (Zm XI) [a.1,a.2.1,a.2.2.1,a.2.2.2.1] b.2.2.2.1) (Ud) then
 J (F79 (3:Int) b.2.2.2.2 (6:Int)) fun q=>C (.inr (.inr q))
 else
 bif a.2.2.2.2.1 then
 C
 (.inl
 (b.1,Kn (Zm Y3) a.1 a.2.2.1 b.2.1,Kn (Zm Y3) a.2.2.1 Uc b.2.2.1,
 Kn (Zm XI) [a.1,a.2.1,a.2.2.1,a.2.2.2.1] Uc b.2.2.2.1,
 Vc .i64 (b.2.2.2.2+(1:Int))))
 else
 C
 (.inl
 (b.1,b.2.1,b.2.2.1,Kn (Zm XI) [a.1,a.2.1,a.2.2.1,a.2.2.2.1] Uc b.2.2.2.1,
 Vc .i64 (b.2.2.2.2+(1:Int))))
 else C (.inr (.inl b.1)))
 (((0:Int),(0:Int),(0:Int),()),[],[],[],(0:Int)))
 fun r=>Vf (fun _=>C ((0:Int),(0:Int),(0:Int),())) (fun t=>C t) r
def F67E:Zn:=ZZ 112 f112 171 [F79E,F80E,F78E] (hS (hS (hS (hS (.seq (hS (.lp (en [(2,.var KP (.pd KP)),(3,.map Y3 Y3),(4,.map Y3 Y4),(5,.map XI Y4),pd 24 Y3] [1,22,23]) [(.exit 0,en [(2,.var KP (.pd KP))] []),(.ret,en [(2,.var KP (.pd KP))] [])] (hS (hS (.seq (hS (.seq (.seq (.reg [(51,Y4)]) .leaf) (hS (.seq (.seq (.reg [(81,Y4)]) .leaf) .leaf)))) .leaf))))) .leaf))))) (.q Zh) (.pd KP) (u1 F67)
def F42:(El Wx)->(El Y3)->Option (El Y3×El ZI):=fun c b=>
 J
 (run
 (fun s0=>
 bif R (s0.2<(↑(U c):Int)) then
 J (idx c s0.2) fun a=>
 J
 (bif R (a.1<(0:Int)) then C (R (a.1<(0:Int)))
 else
 J
 (bif R (b<=a.1) then C (R (b<=a.1))
 else
 J
 (bif R (a.2.1<(0:Int)) then C (R (a.2.1<(0:Int)))
 else
 J (bif R (b<=a.2.1) then C (R (b<=a.2.1)) else C (R (a.1=a.2.1))) fun e=>
 C e)
 fun f=>C f)
 fun g=>C g)
 fun h=>
 bif h then C (.inr (.inr (s0.2,(9:Int))))
 else
 J
 (bif R (a.2.2.1<(1:Int)) then C (R (a.2.2.1<(1:Int)))
 else C (R ((14400:Int)<a.2.2.1)))
 fun i=>
 bif i then C (.inr (.inr (s0.2,(2:Int))))
 else
 bif Ve (ZT (Zm Yl) (a.1,a.2.1,a.2.2.2.1,()) s0.1) (Ud) then C (.inr (.inr (s0.2,(6:Int))))
 else C (.inl (Kn (Zm Yl) (a.1,a.2.1,a.2.2.2.1,()) Uc s0.1,Vc .i64 (s0.2+(1:Int))))
 else C (.inr (.inl ())))
 ([],(0:Int)))
 fun j=>Vf (fun _=>C ((0:Int),(0:Int))) (fun d=>C (d.1,d.2)) j
def F42E:Zn:=Wf 220 f220 62 [] (hS (hS (.seq (hS (.lp (en [(6,.map Yl Y4),pd 13 Y3] [1,11,12]) [(.exit 0,e0),(.ret,en [pd 4 Y3,pd 5 ZI] [])] (hS (hS (.seq (hS (hS (.seq (.seq (hS (.cnd (C ((en [] [1,6,7,8,9,11,12,13]),[(.normal,en [pd 25 Y4] [1,6,7,8,9,11,12,13])])) .leaf (hS (.cnd (C ((en [] [1,6,7,8,9,11,12,13]),[(.normal,en [pd 25 Y4] [1,6,7,8,9,11,12,13])])) .leaf (hS (.cnd (C ((en [] [1,6,7,8,9,11,12,13]),[(.normal,en [pd 25 Y4] [1,6,7,8,9,11,12,13])])) .leaf (hS (.cnd (C ((en [] [1,6,7,8,9,11,12,13]),[(.normal,en [pd 25 Y4] [1,6,7,8,9,11,12,13])])) .leaf .leaf)))))))) (.cnd Ub .leaf (.seq (hS (.cnd (C ((en [] [1,6,7,9,11,12,13]),[(.normal,en [pd 46 Y4] [1,6,7,9,11,12,13])])) .leaf .leaf)) .leaf))) .leaf))) .leaf))))) .leaf))) (.p Wx (.q Y3)) (.p Y3 (.q ZI)) (u2 F42) (fun z=>(((),(),()),(z.1,z.2,()))) (fun y=>(y.2.1,y.2.2.1))
def F163:(El Y3)->(El Y3)->Option (El Y4):=fun a b=>J (bif R (a<(0:Int)) then C Uc else C (R (b<=a))) fun c=>C c
def F163E:Zn:=ZZ 267 f267 11 [] (hS (.seq (.reg [(3,Y4)]) .leaf)) (.p Y3 (.cons (.ro Y3) .nil)) (.pd Y4) (u2 F163)
def F162:(El Y3)->(El Rv)->(El Jl)->Option (El ZI):=fun a c j=>
 J (bif R (a<(0:Int)) then C Uc else C (R ((64:Int)<a))) fun k=>
 bif k then C (2:Int)
 else
 bif R ((4096:Int)<(↑(U c):Int)) then C (5:Int)
 else
 J
 (run
 (fun d=>
 bif R (d<(↑(U c):Int)) then
 J (idx c d) fun b=>
 J (F163 b.1 a) fun l=>
 bif l then C (.inr (.inr (9:Int)))
 else
 J (F163 b.2.1 a) fun m=>
 bif m then C (.inr (.inr (9:Int)))
 else
 J (bif R (b.2.2.1<(0:Int)) then C Uc else C (R ((1073741824:Int)<b.2.2.1))) fun n=>
 bif n then C (.inr (.inr (2:Int))) else C (.inl (Vc .i64 (d+(1:Int))))
 else C (.inr (.inl ())))
 (0:Int))
 fun o=>
 Vf
 (fun _=>
 J
 (run
 (fun e=>
 bif R (e<(↑(U j):Int)) then
 J (idx j e) fun p=>
 J (F163 p a) fun f=>
 bif f then C (.inr (.inr (9:Int))) else C (.inl (Vc .i64 (e+(1:Int))))
 else C (.inr (.inl ())))
 (0:Int))
 fun g=>Vf (fun _=>C (0:Int)) (fun h=>C h) g)
 (fun i=>C i) o
def F162E:Zn:=ZZ 255 f255 57 [F163E] (hS (.seq (.seq (.reg [(17,Y4)]) .leaf) (hS (hS (.seq (hS (.lp (en [pd 24 Y3] [2,7,22,23]) [(.exit 0,en [] [2,7]),(.ret,en [pd 6 ZI] [])] (hS (hS (.seq (hS (hS (.seq (.reg [(45,Y4)]) .leaf))) .leaf))))) (.seq (hS (.lp (en [pd 49 Y3] [7,47,48]) [(.exit 2,e0),(.ret,en [pd 6 ZI] [])] .leaf)) .leaf)))))) (.p Y3 (.p Rv (.q Jl))) (.pd ZI) (u3 F162)
def F167:(El Rv)->(El Y4)->Option (List (El Y3×List (El He))):=fun c d=>
 J
 (run
 (fun s0=>
 bif R (s0.2<(↑(U c):Int)) then
 J (idx c s0.2) fun b=>
 J (bif d then C (b.2.1,b.1,b.2.2) else C b) fun a=>
 J (Zz (R (U (Ve (ZT (Zm Y3) a.1 s0.1) [])+U [a]<=ZD))) fun _=>
 J (Zz (Tr.holeK Y3 (C a.1) a.1)) fun _=>
 C (.inl (Kn (Zm Y3) a.1 (Ve (ZT (Zm Y3) a.1 s0.1) []++[a]) s0.1,Vc .i64 (s0.2+(1:Int))))
 else C (.inr s0.1))
 ([],(0:Int)))
 fun e=>C e
def F167E:Zn:=ZZ 256 f256 34 [] (hS (hS (.seq (hS (.lp (en [(5,.mrows Y3 He),pd 11 Y3] [1,9,10]) [(.exit 0,en [(5,.mrows Y3 He)] [])] (hS (hS (.seq (hS (.seq (hS (.cnd (C ((en [] [1,5,9,10,11]),[(.normal,en [(7,.var He (.pd He))] [1,5,9,10,11])])) .leaf .leaf)) .leaf)) .leaf))))) .leaf))) (.p Rv (.q Y4)) (.mrows Y3 He) (u2 F167) (rws:=[332])
def F165:(El Zcz)->Option (El Jl):=fun b=>
 J
 (Zz
 (decide
 ((0:El (Tr.Ty.int .i64))<=(↑(U b):Int)/\
 (↑(U b):Int)<=(↑(U b):Int)/\(↑(U b):Int)<=(↑ZD:El (Tr.Ty.int .i64)))))
 fun _=>
 J
 (run
 (fun a=>
 bif R (a.2<(↑(U b):Int)) then
 J (idx b a.2) fun d=>
 J (Zs a.2 (U a.1)) fun c=>
 J a.1[c]? fun _=>C (.inl (Vd a.1 c d.2.1,Vc .i64 (a.2+(1:Int))))
 else C (.inr a.1))
 (Vh (Vk (↑(U b):Int)) ((0:Int)),(0:Int)))
 fun e=>C e
def F165E:Zn:=ZZ 257 f257 23 [] (hS (hS (.seq (hS (.lp (en [(3,.own Y3 Ud),pd 11 Y3] [9,10]) [(.exit 0,en [(3,.own Y3 Ud)] [])] .leaf)) .leaf))) (.q Zcz) (.pd Jl) (u1 F165)
def F166:(El X3)->(El X3)->Option (El Y4):=fun a b=>
 J
 (bif R (a.2.1<b.2.1) then C Uc
 else bif R (a.2.1=b.2.1) then C (R (a.2.2.1<b.2.2.1)) else C Ud)
 fun c=>C c
def F166E:Zn:=ZZ 269 f269 24 [] (hS (.seq (.reg [(4,Y4)]) .leaf)) (.p X3 (.q X3)) (.pd Y4) (u2 F166)
def F47:(YR)->(El Y3)->(El Y3)->Option (YR×El Y4):=fun a d e=>
 J (Zs d (U a.2.1)) fun f=>
 J a.2.1[f]? fun b=>
 J (Zs e (U a.2.1)) fun g=>
 J a.2.1[g]? fun c=>
 J (F166 b.1 c.1) fun h=>
 bif h then C (((),a.2.1,a.2.2.1,()),Uc)
 else
 J (F166 c.1 b.1) fun i=>
 bif i then C (((),a.2.1,a.2.2.1,()),Ud) else C (((),a.2.1,a.2.2.1,()),R (b.2.1<c.2.1))
def F47E:Zn:=Wf 275 f275 46 [F166E] .leaf (.cons Rq (.p Y3 (.q Y3))) (.q Y4) (u3 F47) (fun z=>((z.1,(),(),()),(z.2,()))) (fun y=>(y.1.1,y.2.1))
def F49:(YR)->(El Y3)->(El Y3)->Option (YR):=fun a d e=>
 J (Zs e (U a.2.1)) fun g=>
 J a.2.1[g]? fun c=>
 J (Zs d (U a.2.1)) fun h=>
 J a.2.1[h]? fun i=>
 J (Zs d (U a.2.1)) fun b=>
 J a.2.1[b]? fun _=>
 J (Zs e (U (Vd a.2.1 b c))) fun f=>
 J (Vd a.2.1 b c)[f]? fun _=>C ((),Vd (Vd a.2.1 b c) f i,a.2.2.1,())
def F49E:Zn:=Wf 276 f276 32 [F166E] .leaf (.cons Rq (.p Y3 (.q Y3))) .nil (u3 F49) (fun z=>((z,(),(),()),())) (fun y=>y.1.1)
def F46:(YR)->(El X3)->Option (YR):=fun b d=>
 J (Zz (R (U b.2.1+U [(d,b.2.2.1,())]<=ZD))) fun _=>
 J
 (run
 (fun a=>
 bif R ((0:Int)<a.2) then
 J
 (F47 ((),a.1.2.1,a.1.2.2.1,()) a.2
 (Vc .i64 (Vm (Vc .i64 (a.2 - (1:Int))) (2:Int))))
 fun c=>
 bif c.2 then
 J
 (F49 ((),c.1.2.1,c.1.2.2.1,()) a.2
 (Vc .i64 (Vm (Vc .i64 (a.2 - (1:Int))) (2:Int))))
 fun e=>C (.inl (((),e.2.1,e.2.2.1,()),Vc .i64 (Vm (Vc .i64 (a.2 - (1:Int))) (2:Int))))
 else C (.inr ((),c.1.2.1,c.1.2.2.1,()))
 else C (.inr ((),a.1.2.1,a.1.2.2.1,())))
 (((),b.2.1++[(d,b.2.2.1,())],Vc .i64 (b.2.2.1+(1:Int)),()),
 Vc .i64 ((↑(U (b.2.1++[(d,b.2.2.1,())])):Int) - (1:Int))))
 fun f=>C ((),f.2.1,f.2.2.1,())
def F46E:Zn:=Wf 270 f270 54 [F166E,F47E,F49E] (hS (hS (hS (hS (hS (.lp (en [(0,R9),pd 4 Y3] []) [(.exit 0,en [(0,R9)] [])] .leaf)))))) (.cons Rq (.q X3)) .nil (u2 F46) (fun z=>((z,(),()),())) (fun y=>y.1.1)
def F43:(YR)->Option (YR×El Y3):=fun a=>C (((),a.2.1,a.2.2.1,()),(↑(U a.2.1):Int))
def F43E:Zn:=Wf 280 f280 10 [F166E] .leaf (.cons Rq .nil) (.q Y3) (u1 F43) (fun z=>((z.1,()),(z.2,()))) (fun y=>(y.1.1,y.2.1))
def F44:(YR)->Option (YR×El X3×El Y4):=fun b=>
 J (F43 ((),b.2.1,b.2.2.1,())) fun a=>
 bif R (a.2=(0:Int)) then C (((),a.1.2.1,a.1.2.2.1,()),((0:Int),(0:Int),(0:Int),()),Ud)
 else J (Zs (0:Int) (U a.1.2.1)) fun c=>J a.1.2.1[c]? fun d=>C (((),a.1.2.1,a.1.2.2.1,()),d.1,Uc)
def F44E:Zn:=Wf 277 f277 16 [F166E,F43E] .leaf (.cons Rq .nil) (.p X3 (.q Y4)) (u1 F44) (fun z=>((z.1,()),(z.2.1,z.2.2,()))) (fun y=>(y.1.1,y.2.1,y.2.2.1))
def F48:(YR)->Option (YR):=fun e=>
 J
 (run
 (fun s0=>
 bif R ((↑(U s0.1.2.1):Int)<=Vc .i64 (Vc .i64 ((2:Int) *s0.2)+(1:Int))) then
 C (.inr ((),s0.1.2.1,s0.1.2.2.1,()))
 else
 bif
 decide
 (Vc .i64 (Vc .i64 (Vc .i64 ((2:Int) *s0.2)+(1:Int))+(1:Int))<
 (↑(U s0.1.2.1):Int)) then
 J
 (F47 ((),s0.1.2.1,s0.1.2.2.1,())
 (Vc .i64 (Vc .i64 (Vc .i64 ((2:Int) *s0.2)+(1:Int))+(1:Int)))
 (Vc .i64 (Vc .i64 ((2:Int) *s0.2)+(1:Int))))
 fun c=>
 J
 (bif c.2 then C (Vc .i64 (Vc .i64 (Vc .i64 ((2:Int) *s0.2)+(1:Int))+(1:Int)))
 else C (Vc .i64 (Vc .i64 ((2:Int) *s0.2)+(1:Int))))
 fun d=>
 J (F47 ((),c.1.2.1,c.1.2.2.1,()) d s0.2) fun a=>
 bif !a.2 then C (.inr ((),a.1.2.1,a.1.2.2.1,()))
 else J (F49 ((),a.1.2.1,a.1.2.2.1,()) s0.2 d) fun f=>C (.inl (((),f.2.1,f.2.2.1,()),d))
 else
 J
 (F47 ((),s0.1.2.1,s0.1.2.2.1,()) (Vc .i64 (Vc .i64 ((2:Int) *s0.2)+(1:Int))) s0.2)
 fun b=>
 bif !b.2 then C (.inr ((),b.1.2.1,b.1.2.2.1,()))
 else
 J
 (F49 ((),b.1.2.1,b.1.2.2.1,()) s0.2
 (Vc .i64 (Vc .i64 ((2:Int) *s0.2)+(1:Int))))
 fun g=>C (.inl (((),g.2.1,g.2.2.1,()),Vc .i64 (Vc .i64 ((2:Int) *s0.2)+(1:Int)))))
 (((),e.2.1,e.2.2.1,()),(0:Int)))
 fun h=>C ((),h.2.1,h.2.2.1,())
def F48E:Zn:=Wf 278 f278 41 [F166E,F47E,F49E] (hS (.lp (en [(0,R9),pd 2 Y3] []) [(.ret,en [(0,R9)] [])] (hS (hS (.seq (hS (.cnd (C ((en [] [0,2]),[(.normal,en [pd 3 Y3] [0,2])])) .leaf .leaf)) .leaf))))) (.cons Rq .nil) .nil (u1 F48) (fun z=>((z,()),())) (fun y=>y.1.1)
def F45:(YR)->Option (YR×El X3×El Y4):=fun c=>
 J (F44 ((),c.2.1,c.2.2.1,())) fun a=>
 bif !a.2.2 then C (((),a.1.2.1,a.1.2.2.1,()),a.2.1,Ud)
 else
 J (F49 ((),a.1.2.1,a.1.2.2.1,()) (0:Int) (Vc .i64 ((↑(U a.1.2.1):Int) - (1:Int))))
 fun b=>
 J (sliceB (U b.2.1) (U b.2.1) Ub (C (Vc .i64 ((↑(U a.1.2.1):Int) - (1:Int)))))
 fun e=>
 J (F48 ((),Vg e.2 b.2.1,b.2.2.1,())) fun d=>C (((),d.2.1,d.2.2.1,()),a.2.1,Uc)
def F45E:Zn:=Wf 271 f271 36 [F166E,F49E,F44E,F48E] .leaf (.cons Rq .nil) (.p X3 (.q Y4)) (u1 F45) (fun z=>((z.1,()),(z.2.1,z.2.2,()))) (fun y=>(y.1.1,y.2.1,y.2.2.1))
def F50:(Unit)->Option (YR):=fun _=>C ((),[],(0:Int),())
def F50E:Zn:=Wf 268 f268 8 [F166E] .leaf (.cons (.fn 269 .nil) .nil) (.cons Rq .nil) (u1 F50) (fun z=>(((),()),(z,()))) (fun y=>y.2.1) (fns:=[269])
def F164:(El Y3)->(List (El Y3×List (El He)))->(El Y3)->Option (List (El Y3×List (El He)) ×El Zcz):=fun g j s=>
 J (Zz (R ((0:El (Tr.Ty.int .i64))<=g/\g<=g/\g<=(↑ZD:El (Tr.Ty.int .i64))))) fun _=>
 J
 (run
 (fun e=>
 bif R (e.2<(↑(U (Vh (Vk g) (((0:Int),(0:Int),(0:Int),())))):Int)) then
 J (Zs e.2 (U e.1)) fun p=>
 J e.1[p]? fun _=>C (.inl (Vd e.1 p (e.2,(-1:Int),(-1:Int),()),Vc .i64 (e.2+(1:Int))))
 else C (.inr e.1))
 (Vh (Vk g) (((0:Int),(0:Int),(0:Int),())),(0:Int)))
 fun t=>
 J (F50 ()) fun q=>
 J (F46 ((),q.2.1,q.2.2.1,()) (s,(0:Int),(0:Int),())) fun r=>
 J
 (run
 (fun c=>
 J (F45 ((),c.2.2.1,c.2.2.2.1,())) fun b=>
 bif !b.2.2 then C (.inr c.1)
 else
 J (Zs b.2.1.1 (U c.1)) fun u=>
 J c.1[u]? fun k=>
 bif R ((0:Int)<=k.2.2.1) then C (.inl (c.1,(),b.1.2.1,b.1.2.2.1,()))
 else
 J (Zs b.2.1.1 (U c.1)) fun d=>
 J c.1[d]? fun _=>
 J
 (run
 (fun a=>
 bif R (a.2<(↑(U (Ve (ZT (Zm Y3) b.2.1.1 j) [])):Int)) then
 J (Zs a.2 (U (Ve (ZT (Zm Y3) b.2.1.1 j) []))) fun l=>
 J (Ve (ZT (Zm Y3) b.2.1.1 j) [])[l]? fun f=>
 J (Zs f.2.1 (U (Vd c.1 d b.2.1))) fun m=>
 J (Vd c.1 d b.2.1)[m]? fun n=>
 bif R (n.2.2.1<(0:Int)) then
 J
 (F46 ((),a.1.2.1,a.1.2.2.1,())
 (f.2.1,Vc .i64 (b.2.1.2.1+f.2.2.1),
 Vc .i64 (b.2.1.2.2.1+(1:Int)),()))
 fun h=>C (.inl (((),h.2.1,h.2.2.1,()),Vc .i64 (a.2+(1:Int))))
 else C (.inl (((),a.1.2.1,a.1.2.2.1,()),Vc .i64 (a.2+(1:Int))))
 else C (.inr ((),a.1.2.1,a.1.2.2.1,())))
 (((),b.1.2.1,b.1.2.2.1,()),(0:Int)))
 fun i=>C (.inl (Vd c.1 d b.2.1,(),i.2.1,i.2.2.1,())))
 (t,(),r.2.1,r.2.2.1,()))
 fun o=>C (j,o)
def F164E:Zn:=Wf 258 f258 82 [F50E,F166E,F46E,F45E] (hS (hS (.seq (hS (.lp (en [(7,.own X3 Ud),pd 18 Y3] [1,2,17]) [(.exit 0,en [(7,.own X3 Ud)] [1,2])] .leaf)) (hS (hS (.lp (en [(7,.own X3 Ud),(9,R9)] [1]) [(.ret,en [(6,.own X3 Ud)] [1])] (hS (hS (hS (hS (hS (.lp (en [(9,R9),pd 57 Y3] [1,7,10,55,56]) [(.exit 4,en [(9,R9)] [1,7])] .leaf)))))))))))) (.p Y3 (.cons (.mrows Y3 He) (.q Y3))) (.q Zcz) (u3 F164) (fun z=>(((),z.1,(),()),(z.2,()))) (fun y=>(y.1.2.1,y.2.1))
def F161:(El Y3)->(El Rv)->Option (El ZC×El ZI):=fun b c=>
 J (F162 b c []) fun d=>
 bif !R (d=(0:Int)) then C ([],d)
 else
 J (F167 c Ud) fun g=>
 J (Zz (R ((0:El (Tr.Ty.int .i64))<=b/\b<=b/\b<=(↑ZD:El (Tr.Ty.int .i64))))) fun _=>
 J
 (run
 (fun a=>
 bif R (a.2.2<(↑(U (Vh (Vk b) (([]:List (El Y3))))):Int)) then
 J (F164 b a.1 a.2.2) fun e=>
 J (F165 e.2) fun h=>
 J (Zs a.2.2 (U a.2.1)) fun f=>
 J a.2.1[f]? fun _=>C (.inl (e.1,Vd a.2.1 f h,Vc .i64 (a.2.2+(1:Int))))
 else C (.inr a.2.1))
 (g,Vh (Vk b) (([]:List (El Y3))),(0:Int)))
 fun i=>C (i,(0:Int))
def F161E:Zn:=Wf 251 f251 35 [F162E,F167E,F165E,F164E] (hS (hS (hS (hS (hS (.seq (hS (.lp (en [(7,.mrows Y3 He),(8,.own Jl Ud),pd 22 Y3] [0,21]) [(.exit 0,en [(8,.own Jl Ud)] [])] .leaf)) .leaf)))))) (.p Y3 (.q Rv)) (.p ZC (.q ZI)) (u2 F161) (fun z=>(((),(),()),(z.1,z.2,()))) (fun y=>(y.2.1,y.2.2.1))
def F41:(El Wx)->(El Y3)->(El Y4)->Option (El ZC):=fun g i j=>
 J
 (run
 (fun s0=>
 bif R (s0.2<(↑(U g):Int)) then
 J (idx g s0.2) fun b=>
 J (bif j then C !b.2.2.2.1 else C Ud) fun k=>
 bif k then C (.inl (s0.1,Vc .i64 (s0.2+(1:Int))))
 else
 J
 (bif !Vj (ZT (Zm Yl) (b.1,b.2.1,Ud,()) s0.1) then C Uc
 else C (R (b.2.2.1<Ve (ZT (Zm Yl) (b.1,b.2.1,Ud,()) s0.1) ((0:Int)))))
 fun l=>
 bif l then C (.inl (Kn (Zm Yl) (b.1,b.2.1,Ud,()) b.2.2.1 s0.1,Vc .i64 (s0.2+(1:Int))))
 else C (.inl (s0.1,Vc .i64 (s0.2+(1:Int))))
 else C (.inr s0.1))
 ([],(0:Int)))
 fun f=>
 J
 (Zz
 (R ((0:El (Tr.Ty.int .i64))<=(0:Int)/\(0:Int)<=(↑(U f):Int)/\(↑(U f):Int)<=(↑ZD:El (Tr.Ty.int .i64)))))
 fun _=>
 Tr.drun (fun a=>bif Vl a.2 then(1:Nat) else U a.2)
 (fun a h=>
 bif Vl a.2 then C (.inr a.1)
 else
 J a.2[h]? fun c=>
 J (Zz (R (U a.1+U [(c.1.1,c.1.2.1,c.2,())]<=ZD))) fun _=>
 C (.inl (a.1++[(c.1.1,c.1.2.1,c.2,())],List.eraseIdx a.2 h)))
 (fun d=>J (F161 i d) fun e=>C e.1) (Vh (Vk (0:Int)) (((0:Int),(0:Int),(0:Int),())),f)
def F41E:Zn:=ZZ 239 f239 81 [F161E] (hS (hS (.seq (hS (.lp (en [(7,.map Yl Y3),pd 21 Y3] [1,2,19,20]) [(.exit 0,en [(7,.map Yl Y3)] [1])] (hS (hS (.seq (hS (.seq (.seq (.reg [(30,Y4)]) .leaf) (hS (hS (.seq (.reg [(49,Y4)]) .leaf))))) .leaf))))) (hS (.seq (hS (.lpd 59 (en [(13,.own He Ud),(59,.it Yl Y3)] [1]) [(.exit 2,en [(13,.own He Ud)] [1])] .leaf)) .leaf))))) (.p Wx (.p Y3 (.q Y4))) (.pd ZC) (u3 F41)
def F10:(El Y3)->Option (El Y4):=fun a=>C !R (a=a)
def F10E:Zn:=ZZ 104 f104 6 [] .leaf (.q Y3) (.pd Y4) (u1 F10)
def F8:(El Y3)->(El Y3)->Option (El Y3):=fun a b=>
 J (F10 a) fun d=>
 J (F10 b) fun c=>
 bif d then bif c then C (0:Int) else C (-1:Int)
 else bif c then C (1:Int) else bif R (a<b) then C (-1:Int) else bif R (b<a) then C (1:Int) else C (0:Int)
def F8E:Zn:=ZZ 62 f62 20 [F10E] .leaf (.p Y3 (.q Y3)) (.pd Y3) (u2 F8)
def F9:(El Jl)->Option (El Y3):=fun a=>
 J
 (run
 (fun s0=>
 bif R (s0<(↑(U a):Int)) then
 J (idx a s0) fun b=>
 bif !R (b=(0:Int)) then C (.inr (.inr b)) else C (.inl (Vc .i64 (s0+(1:Int))))
 else C (.inr (.inl ())))
 (0:Int))
 fun c=>Vf (fun _=>C (0:Int)) (fun d=>C d) c
def F9E:Zn:=ZZ 243 f243 18 [] (hS (hS (.seq (hS (.lp (en [pd 8 Y3] [3,6,7]) [(.exit 0,en [] [3]),(.ret,en [pd 2 Y3] [])] .leaf)) .leaf))) (.q Jl) (.pd Y3) (u1 F9)
def F40:(El K8)->(El K8)->Option (El Y3):=fun a b=>
 J (F8 a.1 b.1) fun c=>
 J (F8 a.2.1 b.2.1) fun d=>
 J (F8 a.2.2.1 b.2.2.1) fun e=>J (F9 [c,d,e]) fun f=>C f
def F40S:Tr.Spec:= {args:=(.cons (.pd K8) (.cons (.pd K8) .nil)),res:=(.cons (.pd Y3) .nil),fns:=[],α:=El Y3,f:=fun x=>F40 x.1 x.2.1,unp:=fun z=>(((),(),()),(z,()))}
theorem F40_ok:ZS Tryz.prog 242 F40S:=WZ (rws:=[]) (zxs:=[]) (nt:=22) (m:=[(62,[F8E.S]),(243,[F9E.S])]) (fn:=f242) (hint:=.leaf) (pack:=fun y=>y.2.1) K9 tab_okH ⟨⟨F8E.ok,trivial⟩,⟨F9E.ok,trivial⟩,trivial⟩ fun x z h=>.trans (by kernel_rfl) h
def F40E:Zn:=⟨242,F40S,F40_ok⟩
def F39:(El Y3)->(El Y3)->(El Y3)->(El Y4)->(List (El K8))->Option (List (El K8)):=fun c d a e b=>
 J (bif R ((0:Int)<a) then C (R (a<=(14400:Int))) else C Ud) fun f=>
 bif f then J (Zz (R (U b+U [(c,d,a,e,())]<=ZD))) fun _=>C (b++[(c,d,a,e,())]) else C b
def F39E:Zn:=Wf 240 f240 23 [] (.seq (.reg [(14,Y4)]) .leaf) (.p Y3 (.p Y3 (.p Y3 (.p Y4 (.cons (.var Wx (.own K8 Ud)) .nil))))) .nil (u5 F39) (fun z=>(((),(),(),(),z,()),())) (fun y=>y.1.2.2.2.2.1)
def F182(a:List (El K8))(_:Unit):Option (List (El K8)):=Tr.sortF F40 a
def F182S:Tr.Spec:= {args:=(.cons (.own K8 Uc) (.cons (.fn 242 .nil) .nil)),res:=.nil,fns:=[242],α:=List (El K8),f:=fun x=>F182 x.1 x.2.1,unp:=fun z=>((z,(),()),())}
theorem F182_ok:ZS Tryz.prog 241 F182S:=Tr.sortFunc_ok (ρ:=Tryz.sort241_ren) Tryz.sort241 rfl Tryz.isAgg141 Tryz.sizeOf141 F40_ok
def F182E:Zn:=⟨241,F182S,F182_ok⟩
def F38:(El Wx)->(El Y3)->Option (El Wx):=fun h i=>
 J (F41 h i Ud) fun j=>
 J (F41 h i Uc) fun m=>
 J
 (run
 (fun b=>
 bif R (b.2<(↑(U j):Int)) then
 J (idx j b.2) fun k=>
 J
 (run
 (fun a=>
 bif R (a.2<(↑(U k):Int)) then
 J (idx k a.2) fun f=>
 bif R (b.2=a.2) then C (.inl (a.1,Vc .i64 (a.2+(1:Int))))
 else
 J (idx m b.2) fun n=>
 J (idx n a.2) fun g=>
 J (F39 b.2 a.2 f (R (g=f)) a.1) fun l=>
 bif !R (g=f) then
 J (F39 b.2 a.2 g Uc l) fun o=>C (.inl (o,Vc .i64 (a.2+(1:Int))))
 else C (.inl (l,Vc .i64 (a.2+(1:Int))))
 else C (.inr a.1))
 (b.1,(0:Int)))
 fun c=>C (.inl (c,Vc .i64 (b.2+(1:Int))))
 else C (.inr b.1))
 ([],(0:Int)))
 fun d=>J (F182 d ()) fun e=>C e
def F38E:Zn:=ZZ 221 f221 66 [F41E,F39E,F182E,F40E] (hS (hS (hS (hS (.seq (hS (.lp ⟨[(7,.var Wx (.own K8 Ud)),pd 22 Y3],[(8,240,[7])],[5,6,21],[],[],[]⟩ [(.exit 0,en [(7,.var Wx (.own K8 Ud))] [])] (hS (hS (.seq (hS (hS (.lp ⟨[(7,.var Wx (.own K8 Ud)),pd 30 Y3],[(8,240,[7])],[5,6,9,21,22,28,29],[],[],[]⟩ [(.exit 2,⟨[(7,.var Wx (.own K8 Ud))],[(8,240,[7])],[5,6,21,22],[],[],[]⟩)] .leaf))) .leaf))))) .leaf))))) (.p Wx (.q Y3)) (.pd Wx) (u2 F38)
def F37:(El Wx)->(El Y3)->Option (El Y4):=fun a e=>
 bif R ((64:Int)<e) then C Ud
 else
 J (F42 a e) fun g=>
 bif !R (g.2=(0:Int)) then C Ud
 else
 J (F38 a (Tr.imax e (0:Int))) fun f=>
 bif !R ((↑(U f):Int)=(↑(U a):Int)) then C Ud
 else
 J
 (run
 (fun b=>
 bif R (b<(↑(U f):Int)) then
 J (idx f b) fun c=>
 J (idx a b) fun d=>
 bif
 !(R (c.1=d.1) &&
 (R (c.2.1=d.2.1) && (R (c.2.2.1=d.2.2.1) &&c.2.2.2.1==d.2.2.2.1))) then
 C (.inr (.inr Ud))
 else C (.inl (Vc .i64 (b+(1:Int))))
 else C (.inr (.inl ())))
 (0:Int))
 fun h=>Vf (fun _=>C Uc) (fun i=>C i) h
def F37E:Zn:=ZZ 181 f181 43 [F42E,F38E] (hS (hS (hS (hS (hS (.seq (hS (.lp (en [pd 30 Y3] [0,7,29]) [(.exit 0,e0),(.ret,en [pd 4 Y4] [])] .leaf)) .leaf)))))) (.p Wx (.q Y3)) (.pd Y4) (u2 F37)
def F68:(El Zh)->Option (El KP):=fun b=>
 J
 (run
 (fun s0=>
 bif R (s0.2.2<(↑(U b.2.2.2.2.1):Int)) then
 J (idx b.2.2.2.2.1 s0.2.2) fun a=>
 J
 (J (F80 a.1 (↑(U b.1):Int)) fun f=>
 bif !f then C Uc
 else J (F80 a.2.1 (↑(U b.1):Int)) fun g=>bif !g then C Uc else C (R (a.1=a.2.1)))
 fun h=>
 bif h then J (F79 (4:Int) s0.2.2 (9:Int)) fun i=>C (.inr (.inr i))
 else
 J (bif R (a.2.2.1<(1:Int)) then C Uc else C (R ((14400:Int)<a.2.2.1))) fun j=>
 bif j then J (F79 (4:Int) s0.2.2 (2:Int)) fun k=>C (.inr (.inr k))
 else
 bif Ve (ZT (Zm K8) (a.1,a.2.1,(0:Int),a.2.2.2.1,()) s0.2.1) (Ud) then
 J (F79 (4:Int) s0.2.2 (6:Int)) fun l=>C (.inr (.inr l))
 else
 C
 (.inl
 (s0.1,Kn (Zm K8) (a.1,a.2.1,(0:Int),a.2.2.2.1,()) Uc s0.2.1,Vc .i64 (s0.2.2+(1:Int))))
 else C (.inr (.inl s0.1)))
 (((0:Int),(0:Int),(0:Int),()),[],(0:Int)))
 fun m=>
 Vf
 (fun _=>
 J (F37 b.2.2.2.2.1 (↑(U b.1):Int)) fun c=>
 bif !c then J (F79 (4:Int) (0:Int) (18:Int)) fun d=>C d else C ((0:Int),(0:Int),(0:Int),()))
 (fun e=>C e) m
def F68E:Zn:=ZZ 114 f114 78 [F79E,F80E,F37E] (hS (hS (.seq (hS (.lp (en [(2,.var KP (.pd KP)),(3,.map K8 Y4),pd 11 Y3] [1,9,10]) [(.exit 0,en [(2,.var KP (.pd KP))] [1]),(.ret,en [(2,.var KP (.pd KP))] [])] (hS (hS (.seq (hS (hS (.seq (.seq (.reg [(23,Y4)]) (.cnd Ub .leaf (.seq (.reg [(49,Y4)]) .leaf))) .leaf))) .leaf))))) .leaf))) (.q Zh) (.pd KP) (u1 F68)
def F65:(El Zh)->Option (El Y3×El Y3×El ZI):=fun b=>
 J (F185 b.1) fun f=>
 J (F159 b.2.1) fun g=>
 J (F79 (0:Int) f.1 f.2) fun l=>
 J (F79 (1:Int) g.1 g.2) fun m=>
 J (F70 [l,m]) fun h=>
 J (bif R (h.2.2.1=(0:Int)) then J (F69 b) fun n=>C n else C h) fun i=>
 J (bif R (i.2.2.1=(0:Int)) then J (F67 b) fun o=>C o else C i) fun j=>
 J
 (bif R (j.2.2.1=(0:Int)) then
 J (F82 b.2.2.2.2.2.1) fun k=>
 J (F68 b) fun c=>J (F79 (5:Int) k.1 k.2) fun d=>J (F70 [c,d]) fun e=>C e
 else C j)
 fun a=>C (a.1,a.2.1,a.2.2.1)
def F65E:Zn:=Wf 70 f70 64 [F185E,F159E,F70E,F79E,F69E,F67E,F82E,F68E] (hS (hS (hS (hS (.seq (hS (.cnd (C ((en [] [1]),[(.normal,en [(9,.var KP (.pd KP))] [1])])) .leaf .leaf)) (.seq (hS (.cnd (C ((en [] [1]),[(.normal,en [(9,.var KP (.pd KP))] [1])])) .leaf .leaf)) (.seq (hS (.cnd (C (e0,[(.normal,en [(9,.var KP (.pd KP))] [])])) .leaf .leaf)) .leaf))))))) (.q Zh) (.p Y3 (.p Y3 (.q ZI))) (u1 F65) (fun z=>(((),()),(z.1,z.2.1,z.2.2,()))) (fun y=>(y.2.1,y.2.2.1,y.2.2.2.1))
def F32:(El Y3)->(El Y3)->(El Y3)->Option (El Y4):=fun a b c=>J (bif R (b<=a) then C (R (a<=c)) else C Ud) fun d=>C d
def F32E:Zn:=ZZ 71 f71 15 [] (hS (.seq (.reg [(6,Y4)]) .leaf)) (.p Y3 (.p Y3 (.q Y3))) (.pd Y4) (u3 F32)
def F31:(El Zh)->(El Zk)->Option (El ZI):=fun b a=>
 J (F65 b) fun c=>
 bif !R (c.2.2=(0:Int)) then C (21:Int)
 else
 J
 (J (F32 a.1 (0:Int) (Vc .i64 ((↑(U b.1):Int) - (1:Int)))) fun d=>
 bif !d then C Uc
 else
 J (F32 a.2.1 (0:Int) (Vc .i64 ((↑(U b.1):Int) - (1:Int)))) fun e=>
 bif !e then C Uc
 else
 J (F32 a.2.2.1 (0:Int) (3155932800:Int)) fun f=>
 bif !f then C Uc
 else
 J (F32 a.2.2.2.2.1 (0:Int) (8:Int)) fun g=>
 bif !g then C Uc
 else
 J (F32 a.2.2.2.2.2.1 (0:Int) (86400:Int)) fun h=>
 bif !h then C Uc
 else
 J (F32 a.2.2.2.2.2.2.2.2.1 (0:Int) (255:Int)) fun i=>
 bif !i then C Uc else bif a.2.2.2.2.2.2.2.2.2.1 then C a.2.2.2.1 else C Ud)
 fun j=>bif j then C (22:Int) else C (0:Int)
def F31E:Zn:=ZZ 33 f33 65 [F65E,F32E] (hS (hS (hS (hS (.seq (.seq (.reg [(64,Y4)]) .leaf) .leaf))))) (.p Zh (.q Zk)) (.pd ZI) (u2 F31)
def F77:(El Xn)->Option (El Xn):=fun a=>
 J (Zz (R (U ([]:List Unit)+U a<=ZD))) fun _=>
 J (Zs (↑(U ([]++a)):Int) (U ([]++a)+(1:Nat))) fun b=>
 J (sliceB (U ([]++a)) b Ub (C (↑(U ([]++a)):Int))) fun c=>C (Vg c.2 (Vi (0:Nat) ([]++a)))
def F77E:Zn:=ZZ 115 f115 13 [] .leaf (.q Xn) (.pd Xn) (u1 F77)
def F75:(El Xo)->Option (El Xo):=fun a=>
 J (Zz (R (U ([]:List Unit)+U a<=ZD))) fun _=>
 J (Zs (↑(U ([]++a)):Int) (U ([]++a)+(1:Nat))) fun b=>
 J (sliceB (U ([]++a)) b Ub (C (↑(U ([]++a)):Int))) fun c=>C (Vg c.2 (Vi (0:Nat) ([]++a)))
def F75E:Zn:=ZZ 116 f116 13 [] .leaf (.q Xo) (.pd Xo) (u1 F75)
def F76:(El Rt)->Option (List (El XJ)):=fun a=>
 J (Zz (R (U ([]:List Unit)+U a<=ZD))) fun _=>
 J (Zs (↑(U ([]++a)):Int) (U ([]++a)+(1:Nat))) fun b=>
 J (sliceB (U ([]++a)) b Ub (C (↑(U ([]++a)):Int))) fun c=>C (Vg c.2 ([]++a))
def F76E:Zn:=ZZ 117 f117 13 [] .leaf (.q Rt) (.own XJ Ud) (u1 F76)
def F73:(El Ru)->Option (List (El YS)):=fun a=>
 J (Zz (R (U ([]:List Unit)+U a<=ZD))) fun _=>
 J (Zs (↑(U ([]++a)):Int) (U ([]++a)+(1:Nat))) fun b=>
 J (sliceB (U ([]++a)) b Ub (C (↑(U ([]++a)):Int))) fun c=>C (Vg c.2 ([]++a))
def F73E:Zn:=ZZ 118 f118 13 [] .leaf (.q Ru) (.own YS Ud) (u1 F73)
def F72:(El Wx)->Option (El Wx):=fun a=>
 J (Zz (R (U ([]:List Unit)+U a<=ZD))) fun _=>
 J (Zs (↑(U ([]++a)):Int) (U ([]++a)+(1:Nat))) fun b=>
 J (sliceB (U ([]++a)) b Ub (C (↑(U ([]++a)):Int))) fun c=>C (Vg c.2 (Vi (0:Nat) ([]++a)))
def F72E:Zn:=ZZ 119 f119 13 [] .leaf (.q Wx) (.pd Wx) (u1 F72)
def F71:(El Xc)->Option (El Xc):=fun a=>
 J (Zz (R (U ([]:List Unit)+U a<=ZD))) fun _=>
 J (Zs (↑(U ([]++a)):Int) (U ([]++a)+(1:Nat))) fun b=>
 J (sliceB (U ([]++a)) b Ub (C (↑(U ([]++a)):Int))) fun c=>C (Vg c.2 (Vi (0:Nat) ([]++a)))
def F71E:Zn:=ZZ 120 f120 13 [] .leaf (.q Xc) (.pd Xc) (u1 F71)
def F74:(El HD)->Option (El HD):=fun a=>
 J (Zz (R (U ([]:List Unit)+U a<=ZD))) fun _=>
 J (Zs (↑(U ([]++a)):Int) (U ([]++a)+(1:Nat))) fun b=>
 J (sliceB (U ([]++a)) b Ub (C (↑(U ([]++a)):Int))) fun c=>C (Vg c.2 (Vi (0:Nat) ([]++a)))
def F74E:Zn:=ZZ 121 f121 13 [] .leaf (.q HD) (.pd HD) (u1 F74)
def F66:(El Zh)->Option ((El Xn×El Xo×List (El XJ) ×List (El YS) ×El Wx×El KL×Unit)):=fun d=>
 J (F77 d.1) fun h=>
 J (F75 d.2.1) fun i=>
 J (F76 d.2.2.1) fun f=>
 J (F73 d.2.2.2.1) fun j=>
 J (F72 d.2.2.2.2.1) fun k=>
 J
 (run
 (fun b=>
 bif R (b.2<(↑(U f):Int)) then
 J (Zs b.2 (U b.1.2.2.1)) fun l=>
 J b.1.2.2.1[l]? fun m=>
 J (F71 m.2.2.2.2.2.2.2.1) fun n=>
 J (Zs b.2 (U b.1.2.2.1)) fun g=>
 J b.1.2.2.1[g]? fun a=>
 C
 (.inl
 ((b.1.1,b.1.2.1,
 Vd b.1.2.2.1 g
 (a.1,a.2.1,a.2.2.1,a.2.2.2.1,a.2.2.2.2.1,a.2.2.2.2.2.1,a.2.2.2.2.2.2.1,n,
 a.2.2.2.2.2.2.2.2),
 b.1.2.2.2.1,b.1.2.2.2.2.1,b.1.2.2.2.2.2.1,()),
 Vc .i64 (b.2+(1:Int))))
 else C (.inr b.1))
 ((h,i,f,j,k,d.2.2.2.2.2.1,()),(0:Int)))
 fun c=>
 J (F74 d.2.2.2.2.2.1.1) fun e=>
 C (c.1,c.2.1,c.2.2.1,c.2.2.2.1,c.2.2.2.2.1,(e,c.2.2.2.2.2.1.2),())
def F66E:Zn:=Wf 72 f72 49 [F77E,F75E,F76E,F73E,F72E,F71E,F74E] (hS (hS (.seq (hS (.lp (en [(3,Pz0),pd 26 Y3] [1,2,25]) [(.exit 0,en [(3,Pz0)] [1,2])] .leaf)) .leaf))) (.q Zh) (.cons (.agg (.p Xn (.p Xo (.cons (.own XJ Ud) (.cons (.own YS Ud) (.p Wx (.q KL))))))) .nil) (u1 F66) (fun z=>(((),()),(z,()))) (fun y=>y.2.1)
def F36(a:El Zh)(b:El Zk)(c:El XJ):Option Bool:=Tr.useF a b c
def F36S:Tr.Spec:= {args:=(.cons (.pd Zh) (.cons (.pd Zk) (.cons (.pd XJ) .nil))),res:=(.cons (.pd Y4) .nil),fns:=[],α:=El Y4,f:=fun x=>F36 x.1 x.2.1 x.2.2.1,unp:=fun z=>(((),(),(),()),(z,()))}
theorem F36_ok:ZS Tryz.prog 73 F36S:=Tr.use_ok
def F36E:Zn:=⟨73,F36S,F36_ok⟩
def F35:(El Zh)->(El Zk)->(El Y3)->Option (El Y4):=fun a b c=>J (J (idx a.1 c) fun d=>bif d.2.2.1 then C Uc else C !b.2.2.2.2.2.2.1) fun e=>C e
def F35E:Zn:=ZZ 127 f127 18 [] (hS (.seq (.reg [(6,Y4)]) .leaf)) (.p Zh (.p Zk (.q Y3))) (.pd Y4) (u3 F35)
def F34:(El Zh)->(El Zk)->(El Xc)->Option (El Xc):=fun e f c=>
 J
 (run
 (fun s0=>
 bif R (s0.2<(↑(U c):Int)) then
 J (idx c s0.2) fun a=>
 J (F35 e f a.1) fun g=>
 J (bif !g then C (a.1,a.2.1,a.2.2.1,Ud,Ud,a.2.2.2.2.2) else C a) fun d=>
 J (Zz (R (U s0.1+U [d]<=ZD))) fun _=>
 C (.inl (s0.1++[d],Vc .i64 (s0.2+(1:Int))))
 else C (.inr s0.1))
 ([],(0:Int)))
 fun b=>
 J (Zs (↑(U b):Int) (U b+(1:Nat))) fun h=>
 J (sliceB (U b) h Ub (C (↑(U b):Int))) fun i=>C (Vg i.2 (Vi (0:Nat) b))
def F34E:Zn:=ZZ 74 f74 35 [F35E] (hS (hS (.seq (hS (.lp (en [(7,.own G4 Ud),pd 12 Y3] [3,4,10,11]) [(.exit 0,en [(7,.own G4 Ud)] [])] (hS (hS (.seq (hS (.seq (hS (.cnd (C ((en [] [3,4,7,10,11,12]),[(.normal,en [(9,.var G4 (.pd G4))] [3,4,7,10,11,12])])) .leaf .leaf)) .leaf)) .leaf))))) .leaf))) (.p Zh (.p Zk (.q Xc))) (.pd Xc) (u3 F34)
def F33:(El Zh)->(El Zk)->Option (El Zh×El ZI):=fun e h=>
 J (F31 e h) fun l=>
 bif !R (l=(0:Int)) then C ((([]:List (El Zab)),([]:List (El Zac)),([]:List (El XJ)),([]:List (El YS)),([]:List (El K8)),(([]:List (El JX)),(0:Int),(0:Int),(0:Int),()),()),l)
 else
 J (F66 e) fun o=>
 J
 (run
 (fun c=>
 bif R (c.2<(↑(U e.2.2.1):Int)) then
 J (idx e.2.2.1 c.2) fun m=>
 J (F36 e h m) fun k=>
 J (Zs c.2 (U c.1.2.2.1)) fun i=>
 J c.1.2.2.1[i]? fun b=>
 J (F34 e h m.2.2.2.2.2.2.2.1) fun p=>
 J
 (Zs c.2
 (U
 (Vd c.1.2.2.1 i
 (b.1,b.2.1,b.2.2.1,b.2.2.2.1,b.2.2.2.2.1,b.2.2.2.2.2.1, !k,b.2.2.2.2.2.2.2))))
 fun n=>
 J
 (Vd c.1.2.2.1 i
 (b.1,b.2.1,b.2.2.1,b.2.2.2.1,b.2.2.2.2.1,b.2.2.2.2.2.1, !k,b.2.2.2.2.2.2.2))[n]?
 fun f=>
 C
 (.inl
 ((c.1.1,c.1.2.1,
 Vd
 (Vd c.1.2.2.1 i
 (b.1,b.2.1,b.2.2.1,b.2.2.2.1,b.2.2.2.2.1,b.2.2.2.2.2.1, !k,b.2.2.2.2.2.2.2))
 n
 (f.1,f.2.1,f.2.2.1,f.2.2.2.1,f.2.2.2.2.1,f.2.2.2.2.2.1,f.2.2.2.2.2.2.1,p,
 f.2.2.2.2.2.2.2.2),
 c.1.2.2.2.1,c.1.2.2.2.2.1,c.1.2.2.2.2.2.1,()),
 Vc .i64 (c.2+(1:Int))))
 else C (.inr c.1))
 (o,(0:Int)))
 fun d=>
 bif h.2.2.2.2.2.2.1 then
 J
 (run
 (fun a=>
 bif R (a.2<(↑(U e.2.2.2.2.1):Int)) then
 J (idx e.2.2.2.2.1 a.2) fun g=>
 bif g.2.2.2.1 then
 J (Zz (R (U a.1.2.2.2.2.1+U [g]<=ZD))) fun _=>
 C
 (.inl
 ((a.1.1,a.1.2.1,a.1.2.2.1,a.1.2.2.2.1,a.1.2.2.2.2.1++[g],a.1.2.2.2.2.2.1,()),
 Vc .i64 (a.2+(1:Int))))
 else
 C
 (.inl
 (a.1,
 Vc .i64 (a.2+(1:Int))))
 else C (.inr a.1))
 ((d.1,d.2.1,d.2.2.1,d.2.2.2.1,[],d.2.2.2.2.2.1,()),(0:Int)))
 fun j=>C (j,(0:Int))
 else C (d,(0:Int))
def F33E:Zn:=Wf 34 f34 70 [F31E,F66E,F36E,F34E] (hS (hS (hS (.seq (hS (.lp (en [(7,Pz0),pd 24 Y3] [2,3,4,22,23]) [(.exit 0,en [(7,Pz0)] [2,3,4])] .leaf)) (.seq (hS (.cnd Ub (hS (hS (.lp (en [(7,(.var Zh (.agg (.cons (.pd Xn) (.cons (.pd Xo) (.cons (.own XJ Ud) (.cons (.own YS Ud) (.cons (.own K8 Ud) (.cons (.pd KL) .nil))))))))),pd 56 Y3] [4,54,55]) [(.exit 2,en [(7,(.var Zh (.agg (.cons (.pd Xn) (.cons (.pd Xo) (.cons (.own XJ Ud) (.cons (.own YS Ud) (.cons (.own K8 Ud) (.cons (.pd KL) .nil)))))))))] [4])] .leaf))) .leaf)) .leaf))))) (.p Zh (.q Zk)) (.p Zh (.q ZI)) (u2 F33) (fun z=>(((),(),()),(z.1,z.2,()))) (fun y=>(y.2.1,y.2.2.1))
def F95:(El Zh)->(El Zk)->Option (El H6):=fun c b=>
 J
 (run
 (fun s0=>
 bif R (s0.2<(↑(U c.2.2.2.2.1):Int)) then
 J (idx c.2.2.2.2.1 s0.2) fun a=>
 J (bif R (a.1=b.1) then C (R (a.2.2.1<=b.2.2.2.2.2.1)) else C Ud) fun d=>
 bif d then
 J (Zz (R (U s0.1+U [(a.2.1,a.2.2.1,())]<=ZD))) fun _=>
 C (.inl (s0.1++[(a.2.1,a.2.2.1,())],Vc .i64 (s0.2+(1:Int))))
 else C (.inl (s0.1,Vc .i64 (s0.2+(1:Int))))
 else C (.inr s0.1))
 ([(b.1,(0:Int),())],(0:Int)))
 fun e=>C e
def F95E:Zn:=ZZ 35 f35 41 [] (hS (hS (.seq (hS (.lp (en [(5,.own Zcx Ud),pd 15 Y3] [3,13,14]) [(.exit 0,en [(5,.own Zcx Ud)] [])] (hS (hS (.seq (hS (.seq (.reg [(30,Y4)]) .leaf)) .leaf))))) .leaf))) (.p Zh (.q Zk)) (.pd H6) (u2 F95)
def F184(a:List (El Y3)):Option (List (El Y3)):=Tr.sortI a
def F184S:Tr.Spec:= {args:=(.cons (.own Y3 Uc) .nil),res:=.nil,fns:=[],α:=List (El Y3),f:=fun x=>F184 x.1,unp:=fun z=>((z,()),())}
theorem F184_ok:ZS Tryz.prog 75 F184S:=Tr.sortInt_ok (ρ:=Tryz.sort75_ren) Tryz.sort75 ⟨_,func75,rfl,rfl⟩
def F184E:Zn:=⟨75,F184S,F184_ok⟩
def F172(a:List (El Y3)):Option (List (El Y3)):=Tr.compactI a
def F172S:Tr.Spec:= {args:=(.cons (.own Y3 Ud) .nil),res:=(.cons (.own Y3 Ud) .nil),fns:=[],α:=List (El Y3),f:=fun x=>F172 x.1,unp:=fun z=>(((),()),(z,()))}
theorem F172_ok:ZS Tryz.prog 76 F172S:=Tr.compactInt_ok (ρ:=Tryz.comp76_ren) Tryz.comp76 ⟨_,func76,rfl,rfl⟩
def F172E:Zn:=⟨76,F172S,F172_ok⟩
def F112:(El Zh)->(El Zk)->(El H6)->(El Y3)->Option (El Jl):=fun h k i l=>
 J
 (run
 (fun s0=>
 bif R (s0.2<(↑(U h.2.2.1):Int)) then
 J (idx h.2.2.1 s0.2) fun j=>
 J
 (run
 (fun b=>
 bif R (b.2<(↑(U j.2.2.2.2.2.2.2.1):Int)) then
 J (idx j.2.2.2.2.2.2.2.1 b.2) fun c=>
 J
 (run
 (fun a=>
 bif R (a.2<(↑(U i):Int)) then
 J (idx i a.2) fun d=>
 J
 (bif R (c.1=d.1) then
 bif R (k.2.2.1<=Vc .i64 (c.2.2.1 - d.2.1)) then
 C (R (Vc .i64 (c.2.2.1 - d.2.1)<=l))
 else C Ud
 else C Ud)
 fun m=>
 bif m then
 J (Zz (R (U a.1+U [Vc .i64 (c.2.2.1 - d.2.1)]<=ZD))) fun _=>
 C (.inl (a.1++[Vc .i64 (c.2.2.1 - d.2.1)],Vc .i64 (a.2+(1:Int))))
 else C (.inl (a.1,Vc .i64 (a.2+(1:Int))))
 else C (.inr a.1))
 (b.1,(0:Int)))
 fun n=>C (.inl (n,Vc .i64 (b.2+(1:Int))))
 else C (.inr b.1))
 (s0.1,(0:Int)))
 fun o=>C (.inl (o,Vc .i64 (s0.2+(1:Int))))
 else C (.inr s0.1))
 ([],(0:Int)))
 fun e=>J (F184 e) fun f=>J (F172 f) fun g=>C g
def F112E:Zn:=ZZ 36 f36 69 [F184E,F172E] (hS (hS (.seq (hS (.lp (en [(9,.own Y3 Ud),pd 20 Y3] [2,3,5,18,19]) [(.exit 0,en [(9,.own Y3 Ud)] [])] (hS (hS (.seq (hS (hS (.lp (en [(9,.own Y3 Ud),pd 27 Y3] [2,3,5,18,19,20,25,26]) [(.exit 2,en [(9,.own Y3 Ud)] [2,3,5,18,19,20])] (hS (hS (.seq (hS (hS (.lp (en [(9,.own Y3 Ud),pd 33 Y3] [2,3,5,13,18,19,20,25,26,27,31,32]) [(.exit 4,en [(9,.own Y3 Ud)] [2,3,5,18,19,20,25,26,27])] (hS (hS (.seq (hS (hS (.seq (.reg [(57,Y4)]) .leaf))) .leaf)))))) .leaf)))))) .leaf))))) .leaf))) (.p Zh (.p Zk (.p H6 (.q Y3)))) (.pd Jl) (u4 F112)
def F56:(El Zh)->(El KZ)->Option (El Y4):=fun b a=>
 J
 (bif R ((0:Int)<=a.2.1) then
 bif R (a.2.1<(↑(U b.2.2.1):Int)) then
 bif R ((0:Int)<=a.2.2.1) then
 bif R (a.2.2.1<a.2.2.2.1) then
 J (idx b.2.2.1 a.2.1) fun c=>C (R (a.2.2.2.1<(↑(U c.2.2.2.2.2.2.2.1):Int)))
 else C Ud
 else C Ud
 else C Ud
 else C Ud)
 fun d=>C d
def F56E:Zn:=ZZ 136 f136 41 [] (hS (.seq (.reg [(4,Y4)]) .leaf)) (.p Zh (.q KZ)) (.pd Y4) (u2 F56)
def F5:(El Y3)->Option (El KQ):=fun a=>
 J (bif R (a<(0:Int)) then C Uc else C (R ((63:Int)<a))) fun b=>
 bif b then C (0:Int) else J (Gp .u64 (1:Int) a) fun c=>C c
def F5E:Zn:=ZZ 198 f198 11 [] (hS (.seq (.seq (.reg [(8,Y4)]) .leaf) .leaf)) (.q Y3) (.pd KQ) (u1 F5)
def F3:(El KQ)->(El Y3)->Option (El KQ):=fun a b=>J (F5 b) fun c=>C (K5 .u64 a c)
def F3E:Zn:=ZZ 197 f197 9 [F5E] .leaf (.p KQ (.q Y3)) (.pd KQ) (u2 F3)
def F57:(El Zh)->(El KZ)->Option (El KQ):=fun e d=>
 J (idx e.2.2.1 d.2.1) fun c=>
 J
 (sliceB (U c.2.2.2.2.2.2.2.1) (U c.2.2.2.2.2.2.2.1) (C d.2.2.1)
 (C (Vc .i64 (d.2.2.2.1+(1:Int)))))
 fun a=>
 J
 (run
 (fun b=>
 bif R (b.2<(↑(U (Vg (a.2 - a.1) (Vi a.1 c.2.2.2.2.2.2.2.1))):Int)) then
 J (idx (Vg (a.2 - a.1) (Vi a.1 c.2.2.2.2.2.2.2.1)) b.2) fun f=>
 J (idx e.1 f.1) fun g=>J (F3 b.1 g.2.1) fun h=>C (.inl (h,Vc .i64 (b.2+(1:Int))))
 else C (.inr b.1))
 ((0:Int),(0:Int)))
 fun i=>C i
def F57E:Zn:=ZZ 134 f134 37 [F3E] (hS (hS (.seq (hS (.lp (en [pd 5 KQ,pd 22 Y3] [2,20,21]) [(.exit 0,en [pd 5 KQ] [])] .leaf)) .leaf))) (.p Zh (.q KZ)) (.pd KQ) (u2 F57)
def F0:(El Jl)->Option (El KQ):=fun a=>
 J
 (run
 (fun s0=>
 bif R (s0.2<(↑(U a):Int)) then
 J (idx a s0.2) fun b=>J (F5 b) fun c=>C (.inl (K5 .u64 s0.1 c,Vc .i64 (s0.2+(1:Int))))
 else C (.inr s0.1))
 ((0:Int),(0:Int)))
 fun d=>C d
def F0E:Zn:=ZZ 135 f135 18 [F5E] (hS (hS (.seq (hS (.lp (en [pd 3 KQ,pd 8 Y3] [6,7]) [(.exit 0,en [pd 3 KQ] [])] .leaf)) .leaf))) (.q Jl) (.pd KQ) (u1 F0)
def F54:(El KZ)->(El Zh)->(List (El WS))->Option (List (El WS)):=fun b h c=>
 J (F57 h b) fun g=>
 J (idx h.2.2.1 b.2.1) fun k=>
 J (idx h.2.1 k.2.2.2.2.1) fun l=>
 J (F0 [l.2.1]) fun i=>
 bif !b.2.2.2.2.2.2.2.2.1 then
 J
 (Zz
 (decide
 (U c+U [(b.2.2.2.2.2.2.1,b.2.2.2.2.2.2.2.1,Vc .i64 g,Vc .i64 i,())]<=
 ZD)))
 fun _=>C (c++[(b.2.2.2.2.2.2.1,b.2.2.2.2.2.2.2.1,Vc .i64 g,Vc .i64 i,())])
 else
 J (Zs (Vc .i64 ((↑(U c):Int) - (1:Int))) (U c)) fun a=>
 J c[a]? fun d=>
 J (Vd c a (d.1,b.2.2.2.2.2.2.2.1,d.2.2))[a]? fun j=>
 J (Vd c a (d.1,b.2.2.2.2.2.2.2.1,d.2.2))[a]? fun f=>
 J
 (Vd (Vd c a (d.1,b.2.2.2.2.2.2.2.1,d.2.2)) a
 (f.1,f.2.1,K5 .i64 j.2.2.1 (Vc .i64 g),f.2.2.2))[a]?
 fun m=>
 J
 (Vd (Vd c a (d.1,b.2.2.2.2.2.2.2.1,d.2.2)) a
 (f.1,f.2.1,K5 .i64 j.2.2.1 (Vc .i64 g),f.2.2.2))[a]?
 fun e=>
 C
 (Vd
 (Vd (Vd c a (d.1,b.2.2.2.2.2.2.2.1,d.2.2)) a
 (f.1,f.2.1,K5 .i64 j.2.2.1 (Vc .i64 g),f.2.2.2))
 a (e.1,e.2.1,e.2.2.1,K5 .i64 m.2.2.2.1 (Vc .i64 i),e.2.2.2.2))
def F54E:Zn:=Wf 133 f133 65 [F57E,F0E] .leaf (.p KZ (.cons (.ro Zh) (.cons (.var Wl (.own WS Ud)) .nil))) .nil (u3 F54) (fun z=>(((),(),z,()),())) (fun y=>y.1.2.2.1)
def F53:(El Zh)->(El Jk)->Option (El Wl×El ZI):=fun d e=>
 J (F65 d) fun f=>
 bif !R (f.2.2=(0:Int)) then C ([],(21:Int))
 else
 J
 (run
 (fun a=>
 bif R (a.2.2<(↑(U e.1):Int)) then
 J (idx e.1 a.2.2) fun b=>
 J (bif b.1 then J (F56 d b) fun g=>C !g else C Ud) fun h=>
 bif h then C (.inr (.inr ([],(9:Int))))
 else
 J (bif b.2.2.2.2.2.2.2.2.1 then bif !b.1 then C Uc else C !a.2.1 else C Ud) fun i=>
 bif i then C (.inr (.inr ([],(19:Int))))
 else
 J (bif b.1 then J (F54 b d a.1) fun j=>C j else C a.1) fun k=>
 C (.inl (k,b.1,Vc .i64 (a.2.2+(1:Int))))
 else C (.inr (.inl a.1)))
 ([],Ud,(0:Int)))
 fun l=>Vf (fun m=>C (m,(0:Int))) (fun c=>C (c.1,c.2)) l
def F53E:Zn:=Wf 82 f82 58 [F65E,F54E,F56E] (hS (hS (hS (hS (hS (.seq (hS (.lp ⟨[(9,.var Wl (.own WS Ud)),pd 11 Y4,pd 26 Y3],[(10,133,[2,9])],[2,24,25],[],[],[]⟩ [(.exit 0,en [(9,.var Wl (.own WS Ud))] []),(.ret,en [pd 4 Wl,pd 5 ZI] [])] (hS (hS (.seq (hS (.seq (.seq (.reg [(37,Y4)]) .leaf) (.seq (.seq (.reg [(48,Y4)]) .leaf) (.seq (hS (.cnd (C ((en [] [2,13,24,25,26]),[(.normal,⟨[(9,.var Wl (.own WS Ud))],[(10,133,[2,9])],[2,13,24,25,26],[],[],[]⟩)])) .leaf .leaf)) .leaf)))) .leaf))))) .leaf)))))) (.p Zh (.q Jk)) (.p Wl (.q ZI)) (u2 F53) (fun z=>(((),(),()),(z.1,z.2,()))) (fun y=>(y.2.1,y.2.2.1))
def F17:(El KL)->(El Wl)->Option (El ZI):=fun a b=>
 J (F82 a) fun c=>
 bif !R (c.2=(0:Int)) then C (20:Int) else bif R ((8:Int)<(↑(U b):Int)) then C (33:Int) else C (0:Int)
def F17E:Zn:=ZZ 137 f137 17 [F82E] .leaf (.p KL (.q Wl)) (.pd ZI) (u2 F17)
def F18:(El Y3)->(El Y3)->(El Y3)->Option (El Y4):=fun a b c=>
 J
 (bif R (b<=a) then C Uc
 else C (R (Vc .u64 (Vc .u64 b - Vc .u64 a)<=Vc .u64 c)))
 fun d=>C d
def F18E:Zn:=ZZ 235 f235 20 [] (hS (.seq (.reg [(6,Y4)]) .leaf)) (.p Y3 (.p Y3 (.q Y3))) (.pd Y4) (u3 F18)
end
end Q

