/- More functions of the program as functions of Lean, and that the program computes them; printed by a program of mine. Conditions: none. -/
import Derived.Test.YtdpenljjnfmgiaaGreatDep45
import Derived.Test.YtdpenljjnfmgiaaGreatETsF
import Derived.Test.YtdpenljjnfmgiaaGreatCmq45
import Derived.Test.YtdpenljjnfmgiaaGreatCln45
import Derived.Test.YtdpenljjnfmgiaaGreatClo45
import Derived.Test.YtdpenljjnfmgiaaGreatFmt45
import Derived.Test.YtdpenljjnfmgiaaGreatUse45
import Derived.Test.YtdpenljjnfmgiaaGreatLen45
import Derived.Test.YtdpenljjnfmgiaaGreatLay45
open Tr Go Go.Proofs
open Int renaming toNat ->Vk,tdiv ->Vm
open Go.IntKind renaming wrap ->Vc
open List renaming length ->Vb,set ->Vd,take ->Vg,replicate ->Vh,drop ->Vi,isEmpty ->Vl
open Option renaming bind ->Va,getD ->Ve,isSome ->Vj
open Sum renaming elim ->Vf
namespace Q
noncomputable section
abbrev GZ:Ty:=.prod JS .unit
abbrev J8:Ty:=.prod Y3 (.prod Y3 (.prod Y3 (.prod Y3 (.prod Y3 .unit))))
abbrev Gq:Ty:=.prod Y3 (.prod Y3 (.prod Y3 (.prod Y3 .unit)))
abbrev Hz:Ty:=.sl Gq
abbrev Wg:Ty:=.prod GZ (.prod J8 (.prod Hz .unit))
abbrev He:Ty:=.sl Wg
abbrev Y43:Ty:=.sl J8
abbrev XY:Ty:=.arr 2 Y3
abbrev Y63:Ty:=.sl XY
abbrev Y73:Ty:=.prod Y3 (.prod Y3 .unit)
abbrev Y97:Ty:=.arr 3 Y3
abbrev XL:Ty:=.arr 3 Y3
abbrev Zm5:Ty:=.sl GZ
abbrev Zh7:Ty:=.prod Y4 (.prod Y3 (.prod Hz .unit))
abbrev Zm6:Ty:=.sl Zh7
abbrev Xo:Ty:=.arr 4 Y3
abbrev KD:Ty:=.prod Y3 (.prod Y3 (.prod ZP .unit))
abbrev ZcZ:Ty:=.prod Y4 (.prod Y3 (.prod Y3 (.prod Gq .unit)))
abbrev Jo:Ty:=.arr 9 ZcZ
abbrev Zfk:Ty:=.sl KD
abbrev Gt:Ty:=.prod Y9 (.prod Y3 (.prod Y3 .unit))
abbrev Zm7:Ty:=.ref
abbrev Zm8:Ty:=.ref
abbrev Zm9:Ty:=.ref
abbrev Zna:Ty:=.ref
abbrev Znb:Ty:=.ref
abbrev XX:Ty:=.prod Y3 (.prod Y3 (.prod Y4 .unit))
abbrev Znc:Ty:=.ref
abbrev Znd:Ty:=.ref
abbrev YM:Ty:=.prod Y3 (.prod Y3 (.prod Y3 .unit))
abbrev DC:Ty:=.sl YM
abbrev Zne:Ty:=.ref
abbrev XK:Ty:=.prod Y3 (.prod Y3 (.prod Y3 .unit))
abbrev Zbx:Ty:=.sl XK
abbrev Zh9:Ty:=.ref
abbrev Zby:Ty:=.prod XK (.prod Y3 .unit)
abbrev Zia:Ty:=.sl Zby
abbrev Zfl:Ty:=.prod Zh9 (.prod Zia (.prod Y3 .unit))
def tyTabH:List (Nat×Ty):=[(3,Y3),(4,Y4),(9,Y9),(128,Rg),(22,J6),(130,Rh),(23,J7),(145,Gs),(76,JT),(78,Xp),(24,DA),(199,Yt),(25,DB),(141,KV),(26,Wf),(133,XJ),(27,Hc),(29,KK),(31,Zh),(33,Zm),(35,ZP),(82,Jp),(46,JS),(48,GZ),(50,J8),(118,Gq),(51,Hz),(53,Wg),(38,He),(43,Y43),(65,XY),(63,Y63),(73,Y73),(143,Zbv),(85,HA),(87,W5),(206,Jw),(173,WP),(207,GY),(92,K5),(94,Y94),(91,Y91),(89,K4),(97,Y97),(98,XL),(107,Zm5),(111,WO),(153,Zx),(154,Zaf),(156,Ri),(177,Zh7),(175,Zm6),(180,Xo),(184,Hy),(189,KD),(209,ZcY),(212,We),(215,KE),(222,ZcZ),(223,Jo),(249,Zh8),(251,Zfk),(255,Gt),(252,Zm7),(256,Zm8),(257,Zm9),(258,Zna),(261,Znb),(309,XX),(307,Znc),(324,Znd),(327,YM),(325,DC),(332,Zne),(343,XK),(335,Zbx),(346,Zh9),(356,Zby),(352,Zia),(354,Zfl)]
def mapTabH:List (Nat×Ty×Ty):=[(249,Y9,Y4),(252,Gt,Y4),(256,Y3,Y3),(257,Y3,Y4),(258,Xo,Y4),(261,KV,Y4),(307,XX,Y4),(324,XX,Y3),(332,Y3,DC)]
def pkTabH:List (Nat×Nat):=[(91,1),(92,1),(344,1),(346,2)]
def bdTabH:List (Nat×Nat):=[]
theorem tab_okH:Hq Tryz.prog tyTabH mapTabH pkTabH bdTabH=true:=by kernel_rfl
def Wm(i:Nat)(fn:Func)(nt:Nat)(l:List Zp)(hint:KR)(args res:Pats){α:Type}(f:Kn args->Option α)(unp:α->KY args×Kn res)(pack:KY args×Kn res->α)(rws zxs:List Nat:=[])(fns:List FuncId:=[])(pl:Bool:=true)(kp:List (Nat×Nat×Nat):=[])
    (d:∀x z,f x=some z->XO (mkE tyTabH mapTabH pkTabH rws zxs (GE l) nt bdTabH) (KM fn) fn.results hint args res pack x kp=some z:=by intro x z h;exact .trans (by kernel_rfl) h)
    (m:Tryz.prog.funcs[i]? =some fn:=by kernel_rfl) (k:fn.body=some (KM fn):=by kernel_rfl) (e:nt=fn.ntmps:=by kernel_rfl) (a:(fn.name== "runtime.NumGoroutine")=false:=by kernel_rfl)
    (j:args.wf=true:=by kernel_rfl) (c:Nat.ble args.len nt=true:=by kernel_rfl) (b:∀y,unp (pack y)=y:=by intro y;rfl) (g:(!pl|| (GE l).all fun p=>p.2.all (·.pl))=true:=by kernel_rfl):Zp:=
 ⟨i, {args,res,fns,α,f,unp,pl,kp},WS KZ tab_okH (ZgY l) d m k e a j c b g⟩
def Z5(i:Nat)(fn:Func)(nt:Nat)(l:List Zp)(hint:KR)(args:Pats)(r:Pat)(f:Kn args->Option (KP r))(rws zxs:List Nat:=[])(fns:List FuncId:=[])(pl:Bool:=true)(u:KY args:=by repeat' constructor)
    (d:∀x z,f x=some z->XO (mkE tyTabH mapTabH pkTabH rws zxs (GE l) nt bdTabH) (KM fn) fn.results hint args (Pats.cons r .nil) (fun y:KY args×Kn (Pats.cons r .nil)=>(y.2.1:KP r)) x []=some z:=by intro x z h;exact .trans (by kernel_rfl) h)
    (m:Tryz.prog.funcs[i]? =some fn:=by kernel_rfl) (k:fn.body=some (KM fn):=by kernel_rfl) (e:nt=fn.ntmps:=by kernel_rfl) (a:(fn.name== "runtime.NumGoroutine")=false:=by kernel_rfl)
    (j:args.wf=true:=by kernel_rfl) (c:Nat.ble args.len nt=true:=by kernel_rfl) (b:∀y:KY args,u=y:=by intro y;rfl) (g:(!pl|| (GE l).all fun p=>p.2.all (·.pl))=true:=by kernel_rfl):Zp:=
 Wm i fn nt l hint args (.cons r .nil) f (fun z=>(u,(z,()))) (fun y=>y.2.1) rws zxs fns pl [] d m k e a j c (fun y=>by rw[b y.1]) g
abbrev Pz5:Pat:=.agg (.cons (.fn 269 .nil) (.cons (.own Zby true) (.q Y3)))
abbrev Dz:Pat:=.var Zfl Pz5
abbrev Pz3:Pat:=.agg (.cons (.fn 269 .nil) (.cons (.own Zby false) (.cons (.pd Y3) .nil)))
abbrev Re:Pat:=.var Zfl Pz3
abbrev Ys:=Unit×List (El Zby) ×El Y3×Unit
def F163:(El J6)->Option (El Y3×El ZP):=fun b=>
 bif decide ((64:Int)<(↑(Vb b):Int)) then some ((0:Int),(5:Int))
 else
 Va
 (run
 (fun s0=>
 bif decide (s0.2<(↑(Vb b):Int)) then
 Va (idx b s0.2) fun a=>
 Va (F51 a.1) fun d=>
 bif !d then some (.inr (.inr (s0.2,(12:Int))))
 else
 bif Ve (ZK (Zj Y9) a.1 s0.1) (false) then some (.inr (.inr (s0.2,(6:Int))))
 else
 Va
 (bif decide (a.2.1<(0:Int)) then some true
 else
 bif decide ((16:Int)<=a.2.1) then some true
 else bif decide (a.2.2.2.1<(0:Int)) then some true else some (decide ((3600:Int)<a.2.2.2.1)))
 fun e=>
 bif e then some (.inr (.inr (s0.2,(2:Int))))
 else some (.inl (Kh (Zj Y9) a.1 true s0.1,Vc .i64 (s0.2+(1:Int))))
 else some (.inr (.inl ())))
 ([],(0:Int)))
 fun f=>Vf (fun _=>some ((0:Int),(0:Int))) (fun c=>some (c.1,c.2)) f
def F163E:Zp:=Wm 107 Tryz.f107 54 [F51E] (hS (hS (hS (.seq (hS (.lp (en [(4,.map Y9 Y4),pd 13 Y3] [11,12]) [(.exit 0,e0),(.ret,en [pd 2 Y3,pd 3 ZP] [])] (hS (hS (.seq (hS (.seq (hS (.cnd none .leaf (hS (.cnd none .leaf (.seq (.reg [(30,Y4)]) .leaf))))) .leaf)) .leaf))))) .leaf)))) (.q J6) (.p Y3 (.q ZP)) (u1 F163) (fun z=>(((),()),(z.1,z.2,()))) (fun y=>(y.2.1,y.2.2.1))
def F138:(El Y3)->Option (El Y4):=fun a=>Va (bif decide ((0:Int)<=a) then some (decide (a<(8:Int))) else some false) fun b=>some b
def F138E:Zp:=Z5 176 Tryz.f176 9 [] (hS (.seq (.reg [(2,Y4)]) .leaf)) (.q Y3) (.pd Y4) (u1 F138)
def F137:(El J7)->Option (El Y3×El ZP):=fun b=>
 bif decide ((64:Int)<(↑(Vb b):Int)) then some ((0:Int),(5:Int))
 else
 Va
 (run
 (fun s0=>
 bif decide (s0.2<(↑(Vb b):Int)) then
 Va (idx b s0.2) fun a=>
 Va (F51 a.1) fun d=>
 bif !d then some (.inr (.inr (s0.2,(12:Int))))
 else
 bif Ve (ZK (Zj Y9) a.1 s0.1) (false) then some (.inr (.inr (s0.2,(6:Int))))
 else
 Va (F138 a.2.1) fun e=>
 bif !e then some (.inr (.inr (s0.2,(2:Int))))
 else some (.inl (Kh (Zj Y9) a.1 true s0.1,Vc .i64 (s0.2+(1:Int))))
 else some (.inr (.inl ())))
 ([],(0:Int)))
 fun f=>Vf (fun _=>some ((0:Int),(0:Int))) (fun c=>some (c.1,c.2)) f
def F137E:Zp:=Wm 108 Tryz.f108 37 [F51E,F138E] (hS (hS (hS (.seq (hS (.lp (en [(4,.map Y9 Y4),pd 13 Y3] [11,12]) [(.exit 0,e0),(.ret,en [pd 2 Y3,pd 3 ZP] [])] .leaf)) .leaf)))) (.q J7) (.p Y3 (.q ZP)) (u1 F137) (fun z=>(((),()),(z.1,z.2,()))) (fun y=>(y.2.1,y.2.2.1))
def F71:(El Zfk)->Option (El KD):=fun a=>
 Va
 (run
 (fun s0=>
 bif decide (s0.2<(↑(Vb a):Int)) then
 Va (idx a s0.2) fun b=>
 bif !decide (b.2.2.1=(0:Int)) then some (.inr (.inr b)) else some (.inl (s0.1,Vc .i64 (s0.2+(1:Int))))
 else some (.inr (.inl s0.1)))
 (((0:Int),(0:Int),(0:Int),()),(0:Int)))
 fun c=>Vf (fun _=>some ((0:Int),(0:Int),(0:Int),())) (fun d=>some d) c
def F71E:Zp:=Z5 109 Tryz.f109 17 [] (hS (.seq (hS (.lp (en [(2,.var KD (.pd KD)),pd 7 Y3] [5,6]) [(.exit 0,en [(2,.var KD (.pd KD))] []),(.ret,en [(2,.var KD (.pd KD))] [])] .leaf)) .leaf)) (.q Zfk) (.pd KD) (u1 F71)
def F80:(El Y3)->(El Y3)->(El ZP)->Option (El KD):=fun a b c=>some (a,b,c,())
def F80E:Zp:=Z5 110 Tryz.f110 11 [] .leaf (.p Y3 (.p Y3 (.q ZP))) (.pd KD) (u3 F80)
def F7:(El JT)->(El Y3)->(El Y3)->(El Y3)->(El Y3)->Option (El ZP):=fun c b d e f=>
 Va (idx c b) fun a=>
 Va (bif decide (a.1<(0:Int)) then some true else some (decide (d<=a.1))) fun g=>
 bif g then some (9:Int)
 else
 Va
 (bif decide ((0:Int)<b) then Va (idx c (Vc .i64 (b - (1:Int)))) fun h=>some (decide (h.1=a.1))
 else some false)
 fun i=>
 bif i then some (13:Int)
 else
 Va
 (bif decide (a.2.1<e) then some true
 else
 bif decide (a.2.2.1<a.2.1) then some true
 else
 bif decide (f<a.2.2.1) then some true
 else
 bif decide ((0:Int)<b) then
 Va (idx c (Vc .i64 (b - (1:Int)))) fun j=>some (decide (a.2.1<j.2.2.1))
 else some false)
 fun k=>bif k then some (10:Int) else some (0:Int)
def F7E:Zp:=Z5 219 Tryz.f219 70 [] (hS (hS (.seq (.seq (.reg [(24,Y4)]) .leaf) (.seq (.seq (.reg [(37,Y4)]) .leaf) (.seq (.seq (.reg [(69,Y4)]) .leaf) .leaf))))) (.p JT (.p Y3 (.p Y3 (.p Y3 (.q Y3))))) (.pd ZP) (u5 F7)
def F6:(El JT)->(El Y3)->(El Y3)->(El Y3)->Option (El Y3×El ZP):=fun a e f g=>
 Va (bif decide ((↑(Vb a):Int)<(2:Int)) then some true else some (decide ((32:Int)<(↑(Vb a):Int)))) fun h=>
 bif h then some ((0:Int),(5:Int))
 else
 Va
 (run
 (fun b=>
 bif decide (b<(↑(Vb a):Int)) then
 Va (F7 a b e f g) fun c=>
 bif !decide (c=(0:Int)) then some (.inr (.inr (b,c))) else some (.inl (Vc .i64 (b+(1:Int))))
 else some (.inr (.inl ())))
 (0:Int))
 fun i=>Vf (fun _=>some ((0:Int),(0:Int))) (fun d=>some (d.1,d.2)) i
def F6E:Zp:=Wm 177 Tryz.f177 36 [F7E] (hS (.seq (.seq (.reg [(19,Y4)]) .leaf) (.seq (hS (.lp (en [pd 22 Y3] [0,1,2,3,21]) [(.exit 0,e0),(.ret,en [pd 8 Y3,pd 9 ZP] [])] .leaf)) .leaf))) (.p JT (.p Y3 (.p Y3 (.q Y3)))) (.p Y3 (.q ZP)) (u4 F6) (fun z=>(((),(),(),(),()),(z.1,z.2,()))) (fun y=>(y.2.1,y.2.2.1))
def F70:(El Zh)->Option (El KD):=fun c=>
 bif decide ((1024:Int)<(↑(Vb c.2.2.1):Int)) then Va (F80 (2:Int) (0:Int) (5:Int)) fun j=>some j
 else
 Va
 (run
 (fun b=>
 bif decide (b.2.2<(↑(Vb c.2.2.1):Int)) then
 Va (idx c.2.2.1 b.2.2) fun a=>
 Va (F51 a.2.2.2.1) fun k=>
 bif !k then Va (F80 (2:Int) b.2.2 (12:Int)) fun l=>some (.inr (.inr l))
 else
 Va (bif decide (a.1<(-1:Int)) then some true else some (decide (a.2.2.1<(0:Int)))) fun m=>
 bif m then Va (F80 (2:Int) b.2.2 (2:Int)) fun n=>some (.inr (.inr n))
 else
 Va (bif decide (a.2.1<(0:Int)) then some true else some (decide ((36524:Int)<a.2.1))) fun o=>
 bif o then Va (F80 (2:Int) b.2.2 (11:Int)) fun p=>some (.inr (.inr p))
 else
 Va
 (bif decide (a.2.2.2.2.1<(0:Int)) then some true
 else some (decide ((↑(Vb c.2.1):Int)<=a.2.2.2.2.1)))
 fun q=>
 bif q then Va (F80 (2:Int) b.2.2 (9:Int)) fun e=>some (.inr (.inr e))
 else
 Va (F6 a.2.2.2.2.2.2.2.1 (↑(Vb c.1):Int) (0:Int) (3155932800:Int)) fun d=>
 bif !decide (d.2=(0:Int)) then Va (F80 (2:Int) b.2.2 d.2) fun f=>some (.inr (.inr f))
 else
 bif Ve (ZK (Zj Gt) (a.2.2.2.1,a.2.1,a.2.2.1,()) b.2.1) (false) then
 Va (F80 (2:Int) b.2.2 (6:Int)) fun g=>some (.inr (.inr g))
 else
 some
 (.inl
 (b.1,Kh (Zj Gt) (a.2.2.2.1,a.2.1,a.2.2.1,()) true b.2.1,
 Vc .i64 (b.2.2+(1:Int))))
 else some (.inr (.inl b.1)))
 (((0:Int),(0:Int),(0:Int),()),[],(0:Int)))
 fun h=>Vf (fun _=>some ((0:Int),(0:Int),(0:Int),())) (fun i=>some i) h
def F70E:Zp:=Z5 111 Tryz.f111 96 [F80E,F51E,F6E] (hS (hS (hS (.seq (hS (.lp (en [(2,.var KD (.pd KD)),(3,.map Gt Y4),pd 18 Y3] [1,16,17]) [(.exit 0,en [(2,.var KD (.pd KD))] []),(.ret,en [(2,.var KD (.pd KD))] [])] (hS (hS (.seq (hS (.seq (hS (.cnd none .leaf (.seq (.reg [(30,Y4)]) (.cnd none .leaf (.seq (.reg [(41,Y4)]) (.cnd none .leaf (.seq (.reg [(52,Y4)]) .leaf))))))) .leaf)) .leaf))))) .leaf)))) (.q Zh) (.pd KD) (u1 F70)
def F81:(El Y3)->(El Y3)->Option (El Y4):=fun a b=>Va (bif decide ((0:Int)<=a) then some (decide (a<b)) else some false) fun c=>some c
def F81E:Zp:=Z5 178 Tryz.f178 12 [] (hS (.seq (.reg [(4,Y4)]) .leaf)) (.p Y3 (.q Y3)) (.pd Y4) (u2 F81)
def F79:(List (El Y3×El Y3))->(El Y3)->(El Y3)->Option (List (El Y3×El Y3) ×El Y4):=fun a b c=>
 Va
 (run
 (fun s0=>
 bif s0.2 then
 bif decide (s0.1=c) then some (.inr (.inr true))
 else some (.inl (Ve (ZK (Zj Y3) s0.1 a) ((0:Int)),Vj (ZK (Zj Y3) s0.1 a)))
 else some (.inr (.inl ())))
 (Ve (ZK (Zj Y3) b a) ((0:Int)),Vj (ZK (Zj Y3) b a)))
 fun d=>Vf (fun _=>some (a,false)) (fun e=>some (a,e)) d
def F79E:Zp:=Wm 179 Tryz.f179 25 [] (hS (.seq (hS (.lp (en [pd 7 Y3,pd 8 Y4] [0,2]) [(.exit 0,en [] [0]),(.ret,en [pd 6 Y4] [0])] .leaf)) .leaf)) (.cons (.map Y3 Y3) (.p Y3 (.q Y3))) (.q Y4) (u3 F79) (fun z=>((z.1,(),(),()),(z.2,()))) (fun y=>(y.1.1,y.2.1))
def F68:(El Zh)->Option (El KD):=fun c=>
 bif decide ((1024:Int)<(↑(Vb c.2.2.2.1):Int)) then Va (F80 (3:Int) (0:Int) (5:Int)) fun v=>some v
 else
 Va
 (run
 (fun b=>
 bif decide (b.2.2.2.2<(↑(Vb c.2.2.2.1):Int)) then
 Va (idx c.2.2.2.1 b.2.2.2.2) fun a=>
 Va
 (Va (F81 a.1 (↑(Vb c.2.2.1):Int)) fun w=>
 bif !w then some true
 else
 Va (F81 a.2.2.1 (↑(Vb c.2.2.1):Int)) fun x=>
 bif !x then some true else some (decide (a.1=a.2.2.1)))
 fun y=>
 bif y then Va (F80 (3:Int) b.2.2.2.2 (9:Int)) fun z=>some (.inr (.inr z))
 else
 Va (idx c.2.2.1 a.1) fun s=>
 Va (idx c.2.2.1 a.2.2.1) fun u=>
 Va
 (Va (F81 a.2.1 (↑(Vb s.2.2.2.2.2.2.2.1):Int)) fun A=>
 bif !A then some true
 else Va (F81 a.2.2.2.1 (↑(Vb u.2.2.2.2.2.2.2.1):Int)) fun e=>some !e)
 fun f=>
 bif f then Va (F80 (3:Int) b.2.2.2.2 (9:Int)) fun g=>some (.inr (.inr g))
 else
 Va (idx s.2.2.2.2.2.2.2.1 a.2.1) fun h=>
 Va (idx u.2.2.2.2.2.2.2.1 a.2.2.2.1) fun i=>
 bif !decide (h.1=i.1) then Va (F80 (3:Int) b.2.2.2.2 (13:Int)) fun j=>some (.inr (.inr j))
 else
 bif a.2.2.2.2.1 then
 bif !decide (Vc .i64 (a.2.1+(1:Int))=(↑(Vb s.2.2.2.2.2.2.2.1):Int)) then
 Va (F80 (3:Int) b.2.2.2.2 (19:Int)) fun k=>some (.inr (.inr k))
 else
 bif !decide (a.2.2.2.1=(0:Int)) then
 Va (F80 (3:Int) b.2.2.2.2 (19:Int)) fun l=>some (.inr (.inr l))
 else
 bif Vj (ZK (Zj Y3) a.1 b.2.1) then
 Va (F80 (3:Int) b.2.2.2.2 (19:Int)) fun m=>some (.inr (.inr m))
 else
 bif Ve (ZK (Zj Y3) a.2.2.1 b.2.2.1) (false) then
 Va (F80 (3:Int) b.2.2.2.2 (19:Int)) fun n=>some (.inr (.inr n))
 else
 Va (F79 b.2.1 a.2.2.1 a.1) fun d=>
 bif d.2 then Va (F80 (3:Int) b.2.2.2.2 (19:Int)) fun o=>some (.inr (.inr o))
 else
 bif Ve (ZK (Zj Xo) [a.1,a.2.1,a.2.2.1,a.2.2.2.1] b.2.2.2.1) (false) then
 Va (F80 (3:Int) b.2.2.2.2 (6:Int)) fun p=>some (.inr (.inr p))
 else
 bif a.2.2.2.2.1 then
 some
 (.inl
 (b.1,Kh (Zj Y3) a.1 a.2.2.1 d.1,Kh (Zj Y3) a.2.2.1 true b.2.2.1,
 Kh (Zj Xo) [a.1,a.2.1,a.2.2.1,a.2.2.2.1] true b.2.2.2.1,
 Vc .i64 (b.2.2.2.2+(1:Int))))
 else
 some
 (.inl
 (b.1,d.1,b.2.2.1,Kh (Zj Xo) [a.1,a.2.1,a.2.2.1,a.2.2.2.1] true b.2.2.2.1,
 Vc .i64 (b.2.2.2.2+(1:Int))))
 else
 bif Ve (ZK (Zj Xo) [a.1,a.2.1,a.2.2.1,a.2.2.2.1] b.2.2.2.1) (false) then
 Va (F80 (3:Int) b.2.2.2.2 (6:Int)) fun q=>some (.inr (.inr q))
 else
 bif a.2.2.2.2.1 then
 some
 (.inl
 (b.1,Kh (Zj Y3) a.1 a.2.2.1 b.2.1,Kh (Zj Y3) a.2.2.1 true b.2.2.1,
 Kh (Zj Xo) [a.1,a.2.1,a.2.2.1,a.2.2.2.1] true b.2.2.2.1,
 Vc .i64 (b.2.2.2.2+(1:Int))))
 else
 some
 (.inl
 (b.1,b.2.1,b.2.2.1,Kh (Zj Xo) [a.1,a.2.1,a.2.2.1,a.2.2.2.1] true b.2.2.2.1,
 Vc .i64 (b.2.2.2.2+(1:Int))))
 else some (.inr (.inl b.1)))
 (((0:Int),(0:Int),(0:Int),()),[],[],[],(0:Int)))
 fun r=>Vf (fun _=>some ((0:Int),(0:Int),(0:Int),())) (fun t=>some t) r
def F68E:Zp:=Z5 112 Tryz.f112 171 [F80E,F81E,F79E] (hS (hS (hS (hS (.seq (hS (.lp (en [(2,.var KD (.pd KD)),(3,.map Y3 Y3),(4,.map Y3 Y4),(5,.map Xo Y4),pd 24 Y3] [1,22,23]) [(.exit 0,en [(2,.var KD (.pd KD))] []),(.ret,en [(2,.var KD (.pd KD))] [])] (hS (hS (.seq (hS (.seq (.seq (.reg [(51,Y4)]) .leaf) (hS (.seq (.seq (.reg [(81,Y4)]) .leaf) .leaf)))) .leaf))))) .leaf))))) (.q Zh) (.pd KD) (u1 F68)
def F42:(El Wf)->(El Y3)->Option (El Y3×El ZP):=fun c b=>
 Va
 (run
 (fun s0=>
 bif decide (s0.2<(↑(Vb c):Int)) then
 Va (idx c s0.2) fun a=>
 Va
 (bif decide (a.1<(0:Int)) then some (decide (a.1<(0:Int)))
 else
 Va
 (bif decide (b<=a.1) then some (decide (b<=a.1))
 else
 Va
 (bif decide (a.2.1<(0:Int)) then some (decide (a.2.1<(0:Int)))
 else
 Va (bif decide (b<=a.2.1) then some (decide (b<=a.2.1)) else some (decide (a.1=a.2.1))) fun e=>
 some e)
 fun f=>some f)
 fun g=>some g)
 fun h=>
 bif h then some (.inr (.inr (s0.2,(9:Int))))
 else
 Va
 (bif decide (a.2.2.1<(1:Int)) then some (decide (a.2.2.1<(1:Int)))
 else some (decide ((14400:Int)<a.2.2.1)))
 fun i=>
 bif i then some (.inr (.inr (s0.2,(2:Int))))
 else
 bif Ve (ZK (Zj XX) (a.1,a.2.1,a.2.2.2.1,()) s0.1) (false) then some (.inr (.inr (s0.2,(6:Int))))
 else some (.inl (Kh (Zj XX) (a.1,a.2.1,a.2.2.2.1,()) true s0.1,Vc .i64 (s0.2+(1:Int))))
 else some (.inr (.inl ())))
 ([],(0:Int)))
 fun j=>Vf (fun _=>some ((0:Int),(0:Int))) (fun d=>some (d.1,d.2)) j
def F42E:Zp:=Wm 220 Tryz.f220 62 [] (hS (hS (.seq (hS (.lp (en [(6,.map XX Y4),pd 13 Y3] [1,11,12]) [(.exit 0,e0),(.ret,en [pd 4 Y3,pd 5 ZP] [])] (hS (hS (.seq (hS (hS (.seq (.seq (hS (.cnd (some ((en [] [1,6,7,8,9,11,12,13]),[(.normal,en [pd 25 Y4] [1,6,7,8,9,11,12,13])])) .leaf (hS (.cnd (some ((en [] [1,6,7,8,9,11,12,13]),[(.normal,en [pd 25 Y4] [1,6,7,8,9,11,12,13])])) .leaf (hS (.cnd (some ((en [] [1,6,7,8,9,11,12,13]),[(.normal,en [pd 25 Y4] [1,6,7,8,9,11,12,13])])) .leaf (hS (.cnd (some ((en [] [1,6,7,8,9,11,12,13]),[(.normal,en [pd 25 Y4] [1,6,7,8,9,11,12,13])])) .leaf .leaf)))))))) (.cnd none .leaf (.seq (hS (.cnd (some ((en [] [1,6,7,9,11,12,13]),[(.normal,en [pd 46 Y4] [1,6,7,9,11,12,13])])) .leaf .leaf)) .leaf))) .leaf))) .leaf))))) .leaf))) (.p Wf (.q Y3)) (.p Y3 (.q ZP)) (u2 F42) (fun z=>(((),(),()),(z.1,z.2,()))) (fun y=>(y.2.1,y.2.2.1))
def F141:(El Y3)->(El Y3)->Option (El Y4):=fun a b=>Va (bif decide (a<(0:Int)) then some true else some (decide (b<=a))) fun c=>some c
def F141E:Zp:=Z5 267 Tryz.f267 11 [] (hS (.seq (.reg [(3,Y4)]) .leaf)) (.p Y3 (.cons (.ro Y3) .nil)) (.pd Y4) (u2 F141)
def F140:(El Y3)->(El DC)->(El W5)->Option (El ZP):=fun a c j=>
 Va (bif decide (a<(0:Int)) then some true else some (decide ((64:Int)<a))) fun k=>
 bif k then some (2:Int)
 else
 bif decide ((4096:Int)<(↑(Vb c):Int)) then some (5:Int)
 else
 Va
 (run
 (fun d=>
 bif decide (d<(↑(Vb c):Int)) then
 Va (idx c d) fun b=>
 Va (F141 b.1 a) fun l=>
 bif l then some (.inr (.inr (9:Int)))
 else
 Va (F141 b.2.1 a) fun m=>
 bif m then some (.inr (.inr (9:Int)))
 else
 Va (bif decide (b.2.2.1<(0:Int)) then some true else some (decide ((1073741824:Int)<b.2.2.1))) fun n=>
 bif n then some (.inr (.inr (2:Int))) else some (.inl (Vc .i64 (d+(1:Int))))
 else some (.inr (.inl ())))
 (0:Int))
 fun o=>
 Vf
 (fun _=>
 Va
 (run
 (fun e=>
 bif decide (e<(↑(Vb j):Int)) then
 Va (idx j e) fun p=>
 Va (F141 p a) fun f=>
 bif f then some (.inr (.inr (9:Int))) else some (.inl (Vc .i64 (e+(1:Int))))
 else some (.inr (.inl ())))
 (0:Int))
 fun g=>Vf (fun _=>some (0:Int)) (fun h=>some h) g)
 (fun i=>some i) o
def F140E:Zp:=Z5 255 Tryz.f255 57 [F141E] (hS (.seq (.seq (.reg [(17,Y4)]) .leaf) (hS (hS (.seq (hS (.lp (en [pd 24 Y3] [2,7,22,23]) [(.exit 0,en [] [2,7]),(.ret,en [pd 6 ZP] [])] (hS (hS (.seq (hS (hS (.seq (.reg [(45,Y4)]) .leaf))) .leaf))))) (.seq (hS (.lp (en [pd 49 Y3] [7,47,48]) [(.exit 2,e0),(.ret,en [pd 6 ZP] [])] .leaf)) .leaf)))))) (.p Y3 (.p DC (.q W5))) (.pd ZP) (u3 F140)
def F145:(El DC)->(El Y4)->Option (List (El Y3×List (El YM))):=fun c d=>
 Va
 (run
 (fun s0=>
 bif decide (s0.2<(↑(Vb c):Int)) then
 Va (idx c s0.2) fun b=>
 Va (bif d then some (b.2.1,b.1,b.2.2) else some b) fun a=>
 Va (Zy (decide (Vb (Ve (ZK (Zj Y3) a.1 s0.1) [])+Vb [a]<=ZC))) fun _=>
 Va (Zy (Tr.holeK Y3 (some a.1) a.1)) fun _=>
 some (.inl (Kh (Zj Y3) a.1 (Ve (ZK (Zj Y3) a.1 s0.1) []++[a]) s0.1,Vc .i64 (s0.2+(1:Int))))
 else some (.inr s0.1))
 ([],(0:Int)))
 fun e=>some e
def F145E:Zp:=Z5 256 Tryz.f256 34 [] (hS (hS (.seq (hS (.lp (en [(5,.mrows Y3 YM),pd 11 Y3] [1,9,10]) [(.exit 0,en [(5,.mrows Y3 YM)] [])] (hS (hS (.seq (hS (.seq (hS (.cnd (some ((en [] [1,5,9,10,11]),[(.normal,en [(7,.var YM (.pd YM))] [1,5,9,10,11])])) .leaf .leaf)) .leaf)) .leaf))))) .leaf))) (.p DC (.q Y4)) (.mrows Y3 YM) (u2 F145) (rws:=[332])
def F143:(El Zbx)->Option (El W5):=fun b=>
 Va
 (Zy
 (decide
 ((0:El (Tr.Ty.int .i64))<=(↑(Vb b):Int)/\
 (↑(Vb b):Int)<=(↑(Vb b):Int)/\(↑(Vb b):Int)<=(↑ZC:El (Tr.Ty.int .i64)))))
 fun _=>
 Va
 (run
 (fun a=>
 bif decide (a.2<(↑(Vb b):Int)) then
 Va (idx b a.2) fun d=>
 Va (ZA a.2 (Vb a.1)) fun c=>
 Va a.1[c]? fun _=>some (.inl (Vd a.1 c d.2.1,Vc .i64 (a.2+(1:Int))))
 else some (.inr a.1))
 (Vh (Vk (↑(Vb b):Int)) ((0:Int)),(0:Int)))
 fun e=>some e
def F143E:Zp:=Z5 257 Tryz.f257 23 [] (hS (hS (.seq (hS (.lp (en [(3,.own Y3 false),pd 11 Y3] [9,10]) [(.exit 0,en [(3,.own Y3 false)] [])] .leaf)) .leaf))) (.q Zbx) (.pd W5) (u1 F143)
def F144:(El XK)->(El XK)->Option (El Y4):=fun a b=>
 Va
 (bif decide (a.2.1<b.2.1) then some true
 else bif decide (a.2.1=b.2.1) then some (decide (a.2.2.1<b.2.2.1)) else some false)
 fun c=>some c
def F144E:Zp:=Z5 269 Tryz.f269 24 [] (hS (.seq (.reg [(4,Y4)]) .leaf)) (.p XK (.q XK)) (.pd Y4) (u2 F144)
def F47:(Ys)->(El Y3)->(El Y3)->Option (Ys×El Y4):=fun a d e=>
 Va (ZA d (Vb a.2.1)) fun f=>
 Va a.2.1[f]? fun b=>
 Va (ZA e (Vb a.2.1)) fun g=>
 Va a.2.1[g]? fun c=>
 Va (F144 b.1 c.1) fun h=>
 bif h then some (((),a.2.1,a.2.2.1,()),true)
 else
 Va (F144 c.1 b.1) fun i=>
 bif i then some (((),a.2.1,a.2.2.1,()),false) else some (((),a.2.1,a.2.2.1,()),decide (b.2.1<c.2.1))
def F47E:Zp:=Wm 275 Tryz.f275 46 [F144E] .leaf (.cons Dz (.p Y3 (.q Y3))) (.q Y4) (u3 F47) (fun z=>((z.1,(),(),()),(z.2,()))) (fun y=>(y.1.1,y.2.1))
def F49:(Ys)->(El Y3)->(El Y3)->Option (Ys):=fun a d e=>
 Va (ZA e (Vb a.2.1)) fun g=>
 Va a.2.1[g]? fun c=>
 Va (ZA d (Vb a.2.1)) fun h=>
 Va a.2.1[h]? fun i=>
 Va (ZA d (Vb a.2.1)) fun b=>
 Va a.2.1[b]? fun _=>
 Va (ZA e (Vb (Vd a.2.1 b c))) fun f=>
 Va (Vd a.2.1 b c)[f]? fun _=>some ((),Vd (Vd a.2.1 b c) f i,a.2.2.1,())
def F49E:Zp:=Wm 276 Tryz.f276 32 [F144E] .leaf (.cons Dz (.p Y3 (.q Y3))) .nil (u3 F49) (fun z=>((z,(),(),()),())) (fun y=>y.1.1)
def F46:(Ys)->(El XK)->Option (Ys):=fun b d=>
 Va (Zy (decide (Vb b.2.1+Vb [(d,b.2.2.1,())]<=ZC))) fun _=>
 Va
 (run
 (fun a=>
 bif decide ((0:Int)<a.2) then
 Va
 (F47 ((),a.1.2.1,a.1.2.2.1,()) a.2
 (Vc .i64 (Vm (Vc .i64 (a.2 - (1:Int))) (2:Int))))
 fun c=>
 bif c.2 then
 Va
 (F49 ((),c.1.2.1,c.1.2.2.1,()) a.2
 (Vc .i64 (Vm (Vc .i64 (a.2 - (1:Int))) (2:Int))))
 fun e=>some (.inl (((),e.2.1,e.2.2.1,()),Vc .i64 (Vm (Vc .i64 (a.2 - (1:Int))) (2:Int))))
 else some (.inr ((),c.1.2.1,c.1.2.2.1,()))
 else some (.inr ((),a.1.2.1,a.1.2.2.1,())))
 (((),b.2.1++[(d,b.2.2.1,())],Vc .i64 (b.2.2.1+(1:Int)),()),
 Vc .i64 ((↑(Vb (b.2.1++[(d,b.2.2.1,())])):Int) - (1:Int))))
 fun f=>some ((),f.2.1,f.2.2.1,())
def F46E:Zp:=Wm 270 Tryz.f270 54 [F144E,F47E,F49E] (hS (hS (hS (hS (hS (.lp (en [(0,Re),pd 4 Y3] []) [(.exit 0,en [(0,Re)] [])] .leaf)))))) (.cons Dz (.q XK)) .nil (u2 F46) (fun z=>((z,(),()),())) (fun y=>y.1.1)
def F43:(Ys)->Option (Ys×El Y3):=fun a=>some (((),a.2.1,a.2.2.1,()),(↑(Vb a.2.1):Int))
def F43E:Zp:=Wm 280 Tryz.f280 10 [F144E] .leaf (.cons Dz .nil) (.q Y3) (u1 F43) (fun z=>((z.1,()),(z.2,()))) (fun y=>(y.1.1,y.2.1))
def F44:(Ys)->Option (Ys×El XK×El Y4):=fun b=>
 Va (F43 ((),b.2.1,b.2.2.1,())) fun a=>
 bif decide (a.2=(0:Int)) then some (((),a.1.2.1,a.1.2.2.1,()),((0:Int),(0:Int),(0:Int),()),false)
 else Va (ZA (0:Int) (Vb a.1.2.1)) fun c=>Va a.1.2.1[c]? fun d=>some (((),a.1.2.1,a.1.2.2.1,()),d.1,true)
def F44E:Zp:=Wm 277 Tryz.f277 16 [F144E,F43E] .leaf (.cons Dz .nil) (.p XK (.q Y4)) (u1 F44) (fun z=>((z.1,()),(z.2.1,z.2.2,()))) (fun y=>(y.1.1,y.2.1,y.2.2.1))
def F48:(Ys)->Option (Ys):=fun e=>
 Va
 (run
 (fun s0=>
 bif decide ((↑(Vb s0.1.2.1):Int)<=Vc .i64 (Vc .i64 ((2:Int) *s0.2)+(1:Int))) then
 some (.inr ((),s0.1.2.1,s0.1.2.2.1,()))
 else
 bif
 decide
 (Vc .i64 (Vc .i64 (Vc .i64 ((2:Int) *s0.2)+(1:Int))+(1:Int))<
 (↑(Vb s0.1.2.1):Int)) then
 Va
 (F47 ((),s0.1.2.1,s0.1.2.2.1,())
 (Vc .i64 (Vc .i64 (Vc .i64 ((2:Int) *s0.2)+(1:Int))+(1:Int)))
 (Vc .i64 (Vc .i64 ((2:Int) *s0.2)+(1:Int))))
 fun c=>
 Va
 (bif c.2 then some (Vc .i64 (Vc .i64 (Vc .i64 ((2:Int) *s0.2)+(1:Int))+(1:Int)))
 else some (Vc .i64 (Vc .i64 ((2:Int) *s0.2)+(1:Int))))
 fun d=>
 Va (F47 ((),c.1.2.1,c.1.2.2.1,()) d s0.2) fun a=>
 bif !a.2 then some (.inr ((),a.1.2.1,a.1.2.2.1,()))
 else Va (F49 ((),a.1.2.1,a.1.2.2.1,()) s0.2 d) fun f=>some (.inl (((),f.2.1,f.2.2.1,()),d))
 else
 Va
 (F47 ((),s0.1.2.1,s0.1.2.2.1,()) (Vc .i64 (Vc .i64 ((2:Int) *s0.2)+(1:Int))) s0.2)
 fun b=>
 bif !b.2 then some (.inr ((),b.1.2.1,b.1.2.2.1,()))
 else
 Va
 (F49 ((),b.1.2.1,b.1.2.2.1,()) s0.2
 (Vc .i64 (Vc .i64 ((2:Int) *s0.2)+(1:Int))))
 fun g=>some (.inl (((),g.2.1,g.2.2.1,()),Vc .i64 (Vc .i64 ((2:Int) *s0.2)+(1:Int)))))
 (((),e.2.1,e.2.2.1,()),(0:Int)))
 fun h=>some ((),h.2.1,h.2.2.1,())
def F48E:Zp:=Wm 278 Tryz.f278 41 [F144E,F47E,F49E] (hS (.lp (en [(0,Re),pd 2 Y3] []) [(.ret,en [(0,Re)] [])] (hS (hS (.seq (hS (.cnd (some ((en [] [0,2]),[(.normal,en [pd 3 Y3] [0,2])])) .leaf .leaf)) .leaf))))) (.cons Dz .nil) .nil (u1 F48) (fun z=>((z,()),())) (fun y=>y.1.1)
def F45:(Ys)->Option (Ys×El XK×El Y4):=fun c=>
 Va (F44 ((),c.2.1,c.2.2.1,())) fun a=>
 bif !a.2.2 then some (((),a.1.2.1,a.1.2.2.1,()),a.2.1,false)
 else
 Va (F49 ((),a.1.2.1,a.1.2.2.1,()) (0:Int) (Vc .i64 ((↑(Vb a.1.2.1):Int) - (1:Int))))
 fun b=>
 Va (sliceB (Vb b.2.1) (Vb b.2.1) none (some (Vc .i64 ((↑(Vb a.1.2.1):Int) - (1:Int)))))
 fun e=>
 Va (F48 ((),Vg e.2 b.2.1,b.2.2.1,())) fun d=>some (((),d.2.1,d.2.2.1,()),a.2.1,true)
def F45E:Zp:=Wm 271 Tryz.f271 36 [F144E,F49E,F44E,F48E] .leaf (.cons Dz .nil) (.p XK (.q Y4)) (u1 F45) (fun z=>((z.1,()),(z.2.1,z.2.2,()))) (fun y=>(y.1.1,y.2.1,y.2.2.1))
def F50:(Unit)->Option (Ys):=fun _=>some ((),[],(0:Int),())
def F50E:Zp:=Wm 268 Tryz.f268 8 [F144E] .leaf (.cons (.fn 269 .nil) .nil) (.cons Dz .nil) (u1 F50) (fun z=>(((),()),(z,()))) (fun y=>y.2.1) (fns:=[269])
def F142:(El Y3)->(List (El Y3×List (El YM)))->(El Y3)->Option (List (El Y3×List (El YM)) ×El Zbx):=fun g j s=>
 Va (Zy (decide ((0:El (Tr.Ty.int .i64))<=g/\g<=g/\g<=(↑ZC:El (Tr.Ty.int .i64))))) fun _=>
 Va
 (run
 (fun e=>
 bif decide (e.2<(↑(Vb (Vh (Vk g) (((0:Int),(0:Int),(0:Int),())))):Int)) then
 Va (ZA e.2 (Vb e.1)) fun p=>
 Va e.1[p]? fun _=>some (.inl (Vd e.1 p (e.2,(-1:Int),(-1:Int),()),Vc .i64 (e.2+(1:Int))))
 else some (.inr e.1))
 (Vh (Vk g) (((0:Int),(0:Int),(0:Int),())),(0:Int)))
 fun t=>
 Va (F50 ()) fun q=>
 Va (F46 ((),q.2.1,q.2.2.1,()) (s,(0:Int),(0:Int),())) fun r=>
 Va
 (run
 (fun c=>
 Va (F45 ((),c.2.2.1,c.2.2.2.1,())) fun b=>
 bif !b.2.2 then some (.inr c.1)
 else
 Va (ZA b.2.1.1 (Vb c.1)) fun u=>
 Va c.1[u]? fun k=>
 bif decide ((0:Int)<=k.2.2.1) then some (.inl (c.1,(),b.1.2.1,b.1.2.2.1,()))
 else
 Va (ZA b.2.1.1 (Vb c.1)) fun d=>
 Va c.1[d]? fun _=>
 Va
 (run
 (fun a=>
 bif decide (a.2<(↑(Vb (Ve (ZK (Zj Y3) b.2.1.1 j) [])):Int)) then
 Va (ZA a.2 (Vb (Ve (ZK (Zj Y3) b.2.1.1 j) []))) fun l=>
 Va (Ve (ZK (Zj Y3) b.2.1.1 j) [])[l]? fun f=>
 Va (ZA f.2.1 (Vb (Vd c.1 d b.2.1))) fun m=>
 Va (Vd c.1 d b.2.1)[m]? fun n=>
 bif decide (n.2.2.1<(0:Int)) then
 Va
 (F46 ((),a.1.2.1,a.1.2.2.1,())
 (f.2.1,Vc .i64 (b.2.1.2.1+f.2.2.1),
 Vc .i64 (b.2.1.2.2.1+(1:Int)),()))
 fun h=>some (.inl (((),h.2.1,h.2.2.1,()),Vc .i64 (a.2+(1:Int))))
 else some (.inl (((),a.1.2.1,a.1.2.2.1,()),Vc .i64 (a.2+(1:Int))))
 else some (.inr ((),a.1.2.1,a.1.2.2.1,())))
 (((),b.1.2.1,b.1.2.2.1,()),(0:Int)))
 fun i=>some (.inl (Vd c.1 d b.2.1,(),i.2.1,i.2.2.1,())))
 (t,(),r.2.1,r.2.2.1,()))
 fun o=>some (j,o)
def F142E:Zp:=Wm 258 Tryz.f258 82 [F50E,F144E,F46E,F45E] (hS (hS (.seq (hS (.lp (en [(7,.own XK false),pd 18 Y3] [1,2,17]) [(.exit 0,en [(7,.own XK false)] [1,2])] .leaf)) (hS (hS (.lp (en [(7,.own XK false),(9,Re)] [1]) [(.ret,en [(6,.own XK false)] [1])] (hS (hS (hS (hS (hS (.lp (en [(9,Re),pd 57 Y3] [1,7,10,55,56]) [(.exit 4,en [(9,Re)] [1,7])] .leaf)))))))))))) (.p Y3 (.cons (.mrows Y3 YM) (.q Y3))) (.q Zbx) (u3 F142) (fun z=>(((),z.1,(),()),(z.2,()))) (fun y=>(y.1.2.1,y.2.1))
def F139:(El Y3)->(El DC)->Option (El Zx×El ZP):=fun b c=>
 Va (F140 b c []) fun d=>
 bif !decide (d=(0:Int)) then some ([],d)
 else
 Va (F145 c false) fun g=>
 Va (Zy (decide ((0:El (Tr.Ty.int .i64))<=b/\b<=b/\b<=(↑ZC:El (Tr.Ty.int .i64))))) fun _=>
 Va
 (run
 (fun a=>
 bif decide (a.2.2<(↑(Vb (Vh (Vk b) (([]:List (El Y3))))):Int)) then
 Va (F142 b a.1 a.2.2) fun e=>
 Va (F143 e.2) fun h=>
 Va (ZA a.2.2 (Vb a.2.1)) fun f=>
 Va a.2.1[f]? fun _=>some (.inl (e.1,Vd a.2.1 f h,Vc .i64 (a.2.2+(1:Int))))
 else some (.inr a.2.1))
 (g,Vh (Vk b) (([]:List (El Y3))),(0:Int)))
 fun i=>some (i,(0:Int))
def F139E:Zp:=Wm 251 Tryz.f251 35 [F140E,F145E,F143E,F142E] (hS (hS (hS (hS (hS (.seq (hS (.lp (en [(7,.mrows Y3 YM),(8,.own W5 false),pd 22 Y3] [0,21]) [(.exit 0,en [(8,.own W5 false)] [])] .leaf)) .leaf)))))) (.p Y3 (.q DC)) (.p Zx (.q ZP)) (u2 F139) (fun z=>(((),(),()),(z.1,z.2,()))) (fun y=>(y.2.1,y.2.2.1))
def F41:(El Wf)->(El Y3)->(El Y4)->Option (El Zx):=fun g i j=>
 Va
 (run
 (fun s0=>
 bif decide (s0.2<(↑(Vb g):Int)) then
 Va (idx g s0.2) fun b=>
 Va (bif j then some !b.2.2.2.1 else some false) fun k=>
 bif k then some (.inl (s0.1,Vc .i64 (s0.2+(1:Int))))
 else
 Va
 (bif !Vj (ZK (Zj XX) (b.1,b.2.1,false,()) s0.1) then some true
 else some (decide (b.2.2.1<Ve (ZK (Zj XX) (b.1,b.2.1,false,()) s0.1) ((0:Int)))))
 fun l=>
 bif l then some (.inl (Kh (Zj XX) (b.1,b.2.1,false,()) b.2.2.1 s0.1,Vc .i64 (s0.2+(1:Int))))
 else some (.inl (s0.1,Vc .i64 (s0.2+(1:Int))))
 else some (.inr s0.1))
 ([],(0:Int)))
 fun f=>
 Va
 (Zy
 (decide ((0:El (Tr.Ty.int .i64))<=(0:Int)/\(0:Int)<=(↑(Vb f):Int)/\(↑(Vb f):Int)<=(↑ZC:El (Tr.Ty.int .i64)))))
 fun _=>
 Tr.drun (fun a=>bif Vl a.2 then(1:Nat) else Vb a.2)
 (fun a h=>
 bif Vl a.2 then some (.inr a.1)
 else
 Va a.2[h]? fun c=>
 Va (Zy (decide (Vb a.1+Vb [(c.1.1,c.1.2.1,c.2,())]<=ZC))) fun _=>
 some (.inl (a.1++[(c.1.1,c.1.2.1,c.2,())],List.eraseIdx a.2 h)))
 (fun d=>Va (F139 i d) fun e=>some e.1) (Vh (Vk (0:Int)) (((0:Int),(0:Int),(0:Int),())),f)
def F41E:Zp:=Z5 239 Tryz.f239 81 [F139E] (hS (hS (.seq (hS (.lp (en [(7,.map XX Y3),pd 21 Y3] [1,2,19,20]) [(.exit 0,en [(7,.map XX Y3)] [1])] (hS (hS (.seq (hS (.seq (.seq (.reg [(30,Y4)]) .leaf) (hS (hS (.seq (.reg [(49,Y4)]) .leaf))))) .leaf))))) (hS (.seq (hS (.lpd 59 (en [(13,.own YM false),(59,.it XX Y3)] [1]) [(.exit 2,en [(13,.own YM false)] [1])] .leaf)) .leaf))))) (.p Wf (.p Y3 (.q Y4))) (.pd Zx) (u3 F41)
def F10:(El Y3)->Option (El Y4):=fun a=>some !decide (a=a)
def F10E:Zp:=Z5 104 Tryz.f104 6 [] .leaf (.q Y3) (.pd Y4) (u1 F10)
def F8:(El Y3)->(El Y3)->Option (El Y3):=fun a b=>
 Va (F10 a) fun d=>
 Va (F10 b) fun c=>
 bif d then bif c then some (0:Int) else some (-1:Int)
 else bif c then some (1:Int) else bif decide (a<b) then some (-1:Int) else bif decide (b<a) then some (1:Int) else some (0:Int)
def F8E:Zp:=Z5 62 Tryz.f62 20 [F10E] .leaf (.p Y3 (.q Y3)) (.pd Y3) (u2 F8)
def F9:(El W5)->Option (El Y3):=fun a=>
 Va
 (run
 (fun s0=>
 bif decide (s0<(↑(Vb a):Int)) then
 Va (idx a s0) fun b=>
 bif !decide (b=(0:Int)) then some (.inr (.inr b)) else some (.inl (Vc .i64 (s0+(1:Int))))
 else some (.inr (.inl ())))
 (0:Int))
 fun c=>Vf (fun _=>some (0:Int)) (fun d=>some d) c
def F9E:Zp:=Z5 243 Tryz.f243 18 [] (hS (hS (.seq (hS (.lp (en [pd 8 Y3] [3,6,7]) [(.exit 0,en [] [3]),(.ret,en [pd 2 Y3] [])] .leaf)) .leaf))) (.q W5) (.pd Y3) (u1 F9)
def F40:(El KV)->(El KV)->Option (El Y3):=fun a b=>
 Va (F8 a.1 b.1) fun c=>
 Va (F8 a.2.1 b.2.1) fun d=>
 Va (F8 a.2.2.1 b.2.2.1) fun e=>Va (F9 [c,d,e]) fun f=>some f
def F40S:Tr.Spec:= {args:=(.cons (.pd KV) (.cons (.pd KV) .nil)),res:=(.cons (.pd Y3) .nil),fns:=[],α:=El Y3,f:=fun x=>F40 x.1 x.2.1,unp:=fun z=>(((),(),()),(z,()))}
theorem F40_ok:ZL Tryz.prog 242 F40S:=WS (rws:=[]) (zxs:=[]) (nt:=22) (m:=[(62,[F8E.S]),(243,[F9E.S])]) (fn:=Tryz.f242) (hint:=.leaf) (pack:=fun y=>y.2.1) KZ tab_okH ⟨⟨F8E.ok,trivial⟩,⟨F9E.ok,trivial⟩,trivial⟩ fun x z h=>.trans (by kernel_rfl) h
def F40E:Zp:=⟨242,F40S,F40_ok⟩
def F39:(El Y3)->(El Y3)->(El Y3)->(El Y4)->(List (El KV))->Option (List (El KV)):=fun c d a e b=>
 Va (bif decide ((0:Int)<a) then some (decide (a<=(14400:Int))) else some false) fun f=>
 bif f then Va (Zy (decide (Vb b+Vb [(c,d,a,e,())]<=ZC))) fun _=>some (b++[(c,d,a,e,())]) else some b
def F39E:Zp:=Wm 240 Tryz.f240 23 [] (.seq (.reg [(14,Y4)]) .leaf) (.p Y3 (.p Y3 (.p Y3 (.p Y4 (.cons (.var Wf (.own KV false)) .nil))))) .nil (u5 F39) (fun z=>(((),(),(),(),z,()),())) (fun y=>y.1.2.2.2.2.1)
def F160(a:List (El KV))(_:Unit):Option (List (El KV)):=Tr.sortF F40 a
def F160S:Tr.Spec:= {args:=(.cons (.own KV true) (.cons (.fn 242 .nil) .nil)),res:=.nil,fns:=[242],α:=List (El KV),f:=fun x=>F160 x.1 x.2.1,unp:=fun z=>((z,(),()),())}
theorem F160_ok:ZL Tryz.prog 241 F160S:=Tr.sortFunc_ok (ρ:=Tryz.sort241_ren) Tryz.sort241 rfl Tryz.isAgg141 Tryz.sizeOf141 F40_ok
def F160E:Zp:=⟨241,F160S,F160_ok⟩
def F38:(El Wf)->(El Y3)->Option (El Wf):=fun h i=>
 Va (F41 h i false) fun j=>
 Va (F41 h i true) fun m=>
 Va
 (run
 (fun b=>
 bif decide (b.2<(↑(Vb j):Int)) then
 Va (idx j b.2) fun k=>
 Va
 (run
 (fun a=>
 bif decide (a.2<(↑(Vb k):Int)) then
 Va (idx k a.2) fun f=>
 bif decide (b.2=a.2) then some (.inl (a.1,Vc .i64 (a.2+(1:Int))))
 else
 Va (idx m b.2) fun n=>
 Va (idx n a.2) fun g=>
 Va (F39 b.2 a.2 f (decide (g=f)) a.1) fun l=>
 bif !decide (g=f) then
 Va (F39 b.2 a.2 g true l) fun o=>some (.inl (o,Vc .i64 (a.2+(1:Int))))
 else some (.inl (l,Vc .i64 (a.2+(1:Int))))
 else some (.inr a.1))
 (b.1,(0:Int)))
 fun c=>some (.inl (c,Vc .i64 (b.2+(1:Int))))
 else some (.inr b.1))
 ([],(0:Int)))
 fun d=>Va (F160 d ()) fun e=>some e
def F38E:Zp:=Z5 221 Tryz.f221 66 [F41E,F39E,F160E,F40E] (hS (hS (hS (hS (.seq (hS (.lp ⟨[(7,.var Wf (.own KV false)),pd 22 Y3],[(8,240,[7])],[5,6,21],[],[],[]⟩ [(.exit 0,en [(7,.var Wf (.own KV false))] [])] (hS (hS (.seq (hS (hS (.lp ⟨[(7,.var Wf (.own KV false)),pd 30 Y3],[(8,240,[7])],[5,6,9,21,22,28,29],[],[],[]⟩ [(.exit 2,⟨[(7,.var Wf (.own KV false))],[(8,240,[7])],[5,6,21,22],[],[],[]⟩)] .leaf))) .leaf))))) .leaf))))) (.p Wf (.q Y3)) (.pd Wf) (u2 F38)
def F37:(El Wf)->(El Y3)->Option (El Y4):=fun a e=>
 bif decide ((64:Int)<e) then some false
 else
 Va (F42 a e) fun g=>
 bif !decide (g.2=(0:Int)) then some false
 else
 Va (F38 a (Tr.imax e (0:Int))) fun f=>
 bif !decide ((↑(Vb f):Int)=(↑(Vb a):Int)) then some false
 else
 Va
 (run
 (fun b=>
 bif decide (b<(↑(Vb f):Int)) then
 Va (idx f b) fun c=>
 Va (idx a b) fun d=>
 bif
 !(decide (c.1=d.1) &&
 (decide (c.2.1=d.2.1) && (decide (c.2.2.1=d.2.2.1) &&c.2.2.2.1==d.2.2.2.1))) then
 some (.inr (.inr false))
 else some (.inl (Vc .i64 (b+(1:Int))))
 else some (.inr (.inl ())))
 (0:Int))
 fun h=>Vf (fun _=>some true) (fun i=>some i) h
def F37E:Zp:=Z5 181 Tryz.f181 43 [F42E,F38E] (hS (hS (hS (hS (hS (.seq (hS (.lp (en [pd 30 Y3] [0,7,29]) [(.exit 0,e0),(.ret,en [pd 4 Y4] [])] .leaf)) .leaf)))))) (.p Wf (.q Y3)) (.pd Y4) (u2 F37)
def F69:(El Zh)->Option (El KD):=fun b=>
 Va
 (run
 (fun s0=>
 bif decide (s0.2.2<(↑(Vb b.2.2.2.2.1):Int)) then
 Va (idx b.2.2.2.2.1 s0.2.2) fun a=>
 Va
 (Va (F81 a.1 (↑(Vb b.1):Int)) fun f=>
 bif !f then some true
 else Va (F81 a.2.1 (↑(Vb b.1):Int)) fun g=>bif !g then some true else some (decide (a.1=a.2.1)))
 fun h=>
 bif h then Va (F80 (4:Int) s0.2.2 (9:Int)) fun i=>some (.inr (.inr i))
 else
 Va (bif decide (a.2.2.1<(1:Int)) then some true else some (decide ((14400:Int)<a.2.2.1))) fun j=>
 bif j then Va (F80 (4:Int) s0.2.2 (2:Int)) fun k=>some (.inr (.inr k))
 else
 bif Ve (ZK (Zj KV) (a.1,a.2.1,(0:Int),a.2.2.2.1,()) s0.2.1) (false) then
 Va (F80 (4:Int) s0.2.2 (6:Int)) fun l=>some (.inr (.inr l))
 else
 some
 (.inl
 (s0.1,Kh (Zj KV) (a.1,a.2.1,(0:Int),a.2.2.2.1,()) true s0.2.1,Vc .i64 (s0.2.2+(1:Int))))
 else some (.inr (.inl s0.1)))
 (((0:Int),(0:Int),(0:Int),()),[],(0:Int)))
 fun m=>
 Vf
 (fun _=>
 Va (F37 b.2.2.2.2.1 (↑(Vb b.1):Int)) fun c=>
 bif !c then Va (F80 (4:Int) (0:Int) (18:Int)) fun d=>some d else some ((0:Int),(0:Int),(0:Int),()))
 (fun e=>some e) m
def F69E:Zp:=Z5 114 Tryz.f114 78 [F80E,F81E,F37E] (hS (hS (.seq (hS (.lp (en [(2,.var KD (.pd KD)),(3,.map KV Y4),pd 11 Y3] [1,9,10]) [(.exit 0,en [(2,.var KD (.pd KD))] [1]),(.ret,en [(2,.var KD (.pd KD))] [])] (hS (hS (.seq (hS (hS (.seq (.seq (.reg [(23,Y4)]) (.cnd none .leaf (.seq (.reg [(49,Y4)]) .leaf))) .leaf))) .leaf))))) .leaf))) (.q Zh) (.pd KD) (u1 F69)
def F66:(El Zh)->Option (El Y3×El Y3×El ZP):=fun b=>
 Va (F163 b.1) fun f=>
 Va (F137 b.2.1) fun g=>
 Va (F80 (0:Int) f.1 f.2) fun l=>
 Va (F80 (1:Int) g.1 g.2) fun m=>
 Va (F71 [l,m]) fun h=>
 Va (bif decide (h.2.2.1=(0:Int)) then Va (F70 b) fun n=>some n else some h) fun i=>
 Va (bif decide (i.2.2.1=(0:Int)) then Va (F68 b) fun o=>some o else some i) fun j=>
 Va
 (bif decide (j.2.2.1=(0:Int)) then
 Va (F83 b.2.2.2.2.2.1) fun k=>
 Va (F69 b) fun c=>Va (F80 (5:Int) k.1 k.2) fun d=>Va (F71 [c,d]) fun e=>some e
 else some j)
 fun a=>some (a.1,a.2.1,a.2.2.1)
def F66E:Zp:=Wm 70 Tryz.f70 64 [F163E,F137E,F71E,F80E,F70E,F68E,F83E,F69E] (hS (hS (hS (hS (.seq (hS (.cnd (some ((en [] [1]),[(.normal,en [(9,.var KD (.pd KD))] [1])])) .leaf .leaf)) (.seq (hS (.cnd (some ((en [] [1]),[(.normal,en [(9,.var KD (.pd KD))] [1])])) .leaf .leaf)) (.seq (hS (.cnd (some (e0,[(.normal,en [(9,.var KD (.pd KD))] [])])) .leaf .leaf)) .leaf))))))) (.q Zh) (.p Y3 (.p Y3 (.q ZP))) (u1 F66) (fun z=>(((),()),(z.1,z.2.1,z.2.2,()))) (fun y=>(y.2.1,y.2.2.1,y.2.2.2.1))
def F32:(El Y3)->(El Y3)->(El Y3)->Option (El Y4):=fun a b c=>Va (bif decide (b<=a) then some (decide (a<=c)) else some false) fun d=>some d
def F32E:Zp:=Z5 71 Tryz.f71 15 [] (hS (.seq (.reg [(6,Y4)]) .leaf)) (.p Y3 (.p Y3 (.q Y3))) (.pd Y4) (u3 F32)
def F31:(El Zh)->(El Zm)->Option (El ZP):=fun b a=>
 Va (F66 b) fun c=>
 bif !decide (c.2.2=(0:Int)) then some (21:Int)
 else
 Va
 (Va (F32 a.1 (0:Int) (Vc .i64 ((↑(Vb b.1):Int) - (1:Int)))) fun d=>
 bif !d then some true
 else
 Va (F32 a.2.1 (0:Int) (Vc .i64 ((↑(Vb b.1):Int) - (1:Int)))) fun e=>
 bif !e then some true
 else
 Va (F32 a.2.2.1 (0:Int) (3155932800:Int)) fun f=>
 bif !f then some true
 else
 Va (F32 a.2.2.2.2.1 (0:Int) (8:Int)) fun g=>
 bif !g then some true
 else
 Va (F32 a.2.2.2.2.2.1 (0:Int) (86400:Int)) fun h=>
 bif !h then some true
 else
 Va (F32 a.2.2.2.2.2.2.2.2.1 (0:Int) (255:Int)) fun i=>
 bif !i then some true else bif a.2.2.2.2.2.2.2.2.2.1 then some a.2.2.2.1 else some false)
 fun j=>bif j then some (22:Int) else some (0:Int)
def F31E:Zp:=Z5 33 Tryz.f33 65 [F66E,F32E] (hS (hS (hS (hS (.seq (.seq (.reg [(64,Y4)]) .leaf) .leaf))))) (.p Zh (.q Zm)) (.pd ZP) (u2 F31)
def F78:(El J6)->Option (El J6):=fun a=>
 Va (Zy (decide (Vb ([]:List Unit)+Vb a<=ZC))) fun _=>
 Va (ZA (↑(Vb ([]++a)):Int) (Vb ([]++a)+(1:Nat))) fun b=>
 Va (sliceB (Vb ([]++a)) b none (some (↑(Vb ([]++a)):Int))) fun c=>some (Vg c.2 (Vi (0:Nat) ([]++a)))
def F78E:Zp:=Z5 115 Tryz.f115 13 [] .leaf (.q J6) (.pd J6) (u1 F78)
def F76:(El J7)->Option (El J7):=fun a=>
 Va (Zy (decide (Vb ([]:List Unit)+Vb a<=ZC))) fun _=>
 Va (ZA (↑(Vb ([]++a)):Int) (Vb ([]++a)+(1:Nat))) fun b=>
 Va (sliceB (Vb ([]++a)) b none (some (↑(Vb ([]++a)):Int))) fun c=>some (Vg c.2 (Vi (0:Nat) ([]++a)))
def F76E:Zp:=Z5 116 Tryz.f116 13 [] .leaf (.q J7) (.pd J7) (u1 F76)
def F77:(El DA)->Option (List (El Xp)):=fun a=>
 Va (Zy (decide (Vb ([]:List Unit)+Vb a<=ZC))) fun _=>
 Va (ZA (↑(Vb ([]++a)):Int) (Vb ([]++a)+(1:Nat))) fun b=>
 Va (sliceB (Vb ([]++a)) b none (some (↑(Vb ([]++a)):Int))) fun c=>some (Vg c.2 ([]++a))
def F77E:Zp:=Z5 117 Tryz.f117 13 [] .leaf (.q DA) (.own Xp false) (u1 F77)
def F74:(El DB)->Option (List (El Yt)):=fun a=>
 Va (Zy (decide (Vb ([]:List Unit)+Vb a<=ZC))) fun _=>
 Va (ZA (↑(Vb ([]++a)):Int) (Vb ([]++a)+(1:Nat))) fun b=>
 Va (sliceB (Vb ([]++a)) b none (some (↑(Vb ([]++a)):Int))) fun c=>some (Vg c.2 ([]++a))
def F74E:Zp:=Z5 118 Tryz.f118 13 [] .leaf (.q DB) (.own Yt false) (u1 F74)
def F73:(El Wf)->Option (El Wf):=fun a=>
 Va (Zy (decide (Vb ([]:List Unit)+Vb a<=ZC))) fun _=>
 Va (ZA (↑(Vb ([]++a)):Int) (Vb ([]++a)+(1:Nat))) fun b=>
 Va (sliceB (Vb ([]++a)) b none (some (↑(Vb ([]++a)):Int))) fun c=>some (Vg c.2 (Vi (0:Nat) ([]++a)))
def F73E:Zp:=Z5 119 Tryz.f119 13 [] .leaf (.q Wf) (.pd Wf) (u1 F73)
def F72:(El JT)->Option (El JT):=fun a=>
 Va (Zy (decide (Vb ([]:List Unit)+Vb a<=ZC))) fun _=>
 Va (ZA (↑(Vb ([]++a)):Int) (Vb ([]++a)+(1:Nat))) fun b=>
 Va (sliceB (Vb ([]++a)) b none (some (↑(Vb ([]++a)):Int))) fun c=>some (Vg c.2 (Vi (0:Nat) ([]++a)))
def F72E:Zp:=Z5 120 Tryz.f120 13 [] .leaf (.q JT) (.pd JT) (u1 F72)
def F75:(El Hc)->Option (El Hc):=fun a=>
 Va (Zy (decide (Vb ([]:List Unit)+Vb a<=ZC))) fun _=>
 Va (ZA (↑(Vb ([]++a)):Int) (Vb ([]++a)+(1:Nat))) fun b=>
 Va (sliceB (Vb ([]++a)) b none (some (↑(Vb ([]++a)):Int))) fun c=>some (Vg c.2 (Vi (0:Nat) ([]++a)))
def F75E:Zp:=Z5 121 Tryz.f121 13 [] .leaf (.q Hc) (.pd Hc) (u1 F75)
def F67:(El Zh)->Option ((El J6×El J7×List (El Xp) ×List (El Yt) ×El Wf×El KK×Unit)):=fun d=>
 Va (F78 d.1) fun h=>
 Va (F76 d.2.1) fun i=>
 Va (F77 d.2.2.1) fun f=>
 Va (F74 d.2.2.2.1) fun j=>
 Va (F73 d.2.2.2.2.1) fun k=>
 Va
 (run
 (fun b=>
 bif decide (b.2<(↑(Vb f):Int)) then
 Va (ZA b.2 (Vb b.1.2.2.1)) fun l=>
 Va b.1.2.2.1[l]? fun m=>
 Va (F72 m.2.2.2.2.2.2.2.1) fun n=>
 Va (ZA b.2 (Vb b.1.2.2.1)) fun g=>
 Va b.1.2.2.1[g]? fun a=>
 some
 (.inl
 ((b.1.1,b.1.2.1,
 Vd b.1.2.2.1 g
 (a.1,a.2.1,a.2.2.1,a.2.2.2.1,a.2.2.2.2.1,a.2.2.2.2.2.1,a.2.2.2.2.2.2.1,n,
 a.2.2.2.2.2.2.2.2),
 b.1.2.2.2.1,b.1.2.2.2.2.1,b.1.2.2.2.2.2.1,()),
 Vc .i64 (b.2+(1:Int))))
 else some (.inr b.1))
 ((h,i,f,j,k,d.2.2.2.2.2.1,()),(0:Int)))
 fun c=>
 Va (F75 d.2.2.2.2.2.1.1) fun e=>
 some (c.1,c.2.1,c.2.2.1,c.2.2.2.1,c.2.2.2.2.1,(e,c.2.2.2.2.2.1.2),())
def F67E:Zp:=Wm 72 Tryz.f72 49 [F78E,F76E,F77E,F74E,F73E,F72E,F75E] (hS (hS (.seq (hS (.lp (en [(3,Pz0),pd 26 Y3] [1,2,25]) [(.exit 0,en [(3,Pz0)] [1,2])] .leaf)) .leaf))) (.q Zh) (.cons (.agg (.p J6 (.p J7 (.cons (.own Xp false) (.cons (.own Yt false) (.p Wf (.q KK))))))) .nil) (u1 F67) (fun z=>(((),()),(z,()))) (fun y=>y.2.1)
def F36(a:El Zh)(b:El Zm)(c:El Xp):Option Bool:=Tr.useF a b c
def F36S:Tr.Spec:= {args:=(.cons (.pd Zh) (.cons (.pd Zm) (.cons (.pd Xp) .nil))),res:=(.cons (.pd Y4) .nil),fns:=[],α:=El Y4,f:=fun x=>F36 x.1 x.2.1 x.2.2.1,unp:=fun z=>(((),(),(),()),(z,()))}
theorem F36_ok:ZL Tryz.prog 73 F36S:=Tr.use_ok
def F36E:Zp:=⟨73,F36S,F36_ok⟩
def F35:(El Zh)->(El Zm)->(El Y3)->Option (El Y4):=fun a b c=>Va (Va (idx a.1 c) fun d=>bif d.2.2.1 then some true else some !b.2.2.2.2.2.2.1) fun e=>some e
def F35E:Zp:=Z5 127 Tryz.f127 18 [] (hS (.seq (.reg [(6,Y4)]) .leaf)) (.p Zh (.p Zm (.q Y3))) (.pd Y4) (u3 F35)
def F34:(El Zh)->(El Zm)->(El JT)->Option (El JT):=fun e f c=>
 Va
 (run
 (fun s0=>
 bif decide (s0.2<(↑(Vb c):Int)) then
 Va (idx c s0.2) fun a=>
 Va (F35 e f a.1) fun g=>
 Va (bif !g then some (a.1,a.2.1,a.2.2.1,false,false,a.2.2.2.2.2) else some a) fun d=>
 Va (Zy (decide (Vb s0.1+Vb [d]<=ZC))) fun _=>
 some (.inl (s0.1++[d],Vc .i64 (s0.2+(1:Int))))
 else some (.inr s0.1))
 ([],(0:Int)))
 fun b=>
 Va (ZA (↑(Vb b):Int) (Vb b+(1:Nat))) fun h=>
 Va (sliceB (Vb b) h none (some (↑(Vb b):Int))) fun i=>some (Vg i.2 (Vi (0:Nat) b))
def F34E:Zp:=Z5 74 Tryz.f74 35 [F35E] (hS (hS (.seq (hS (.lp (en [(7,.own Gs false),pd 12 Y3] [3,4,10,11]) [(.exit 0,en [(7,.own Gs false)] [])] (hS (hS (.seq (hS (.seq (hS (.cnd (some ((en [] [3,4,7,10,11,12]),[(.normal,en [(9,.var Gs (.pd Gs))] [3,4,7,10,11,12])])) .leaf .leaf)) .leaf)) .leaf))))) .leaf))) (.p Zh (.p Zm (.q JT))) (.pd JT) (u3 F34)
def F33:(El Zh)->(El Zm)->Option (El Zh×El ZP):=fun e h=>
 Va (F31 e h) fun l=>
 bif !decide (l=(0:Int)) then some ((([]:List (El Rg)),([]:List (El Rh)),([]:List (El Xp)),([]:List (El Yt)),([]:List (El KV)),(([]:List (El XJ)),(0:Int),(0:Int),(0:Int),()),()),l)
 else
 Va (F67 e) fun o=>
 Va
 (run
 (fun c=>
 bif decide (c.2<(↑(Vb e.2.2.1):Int)) then
 Va (idx e.2.2.1 c.2) fun m=>
 Va (F36 e h m) fun k=>
 Va (ZA c.2 (Vb c.1.2.2.1)) fun i=>
 Va c.1.2.2.1[i]? fun b=>
 Va (F34 e h m.2.2.2.2.2.2.2.1) fun p=>
 Va
 (ZA c.2
 (Vb
 (Vd c.1.2.2.1 i
 (b.1,b.2.1,b.2.2.1,b.2.2.2.1,b.2.2.2.2.1,b.2.2.2.2.2.1, !k,b.2.2.2.2.2.2.2))))
 fun n=>
 Va
 (Vd c.1.2.2.1 i
 (b.1,b.2.1,b.2.2.1,b.2.2.2.1,b.2.2.2.2.1,b.2.2.2.2.2.1, !k,b.2.2.2.2.2.2.2))[n]?
 fun f=>
 some
 (.inl
 ((c.1.1,c.1.2.1,
 Vd
 (Vd c.1.2.2.1 i
 (b.1,b.2.1,b.2.2.1,b.2.2.2.1,b.2.2.2.2.1,b.2.2.2.2.2.1, !k,b.2.2.2.2.2.2.2))
 n
 (f.1,f.2.1,f.2.2.1,f.2.2.2.1,f.2.2.2.2.1,f.2.2.2.2.2.1,f.2.2.2.2.2.2.1,p,
 f.2.2.2.2.2.2.2.2),
 c.1.2.2.2.1,c.1.2.2.2.2.1,c.1.2.2.2.2.2.1,()),
 Vc .i64 (c.2+(1:Int))))
 else some (.inr c.1))
 (o,(0:Int)))
 fun d=>
 bif h.2.2.2.2.2.2.1 then
 Va
 (run
 (fun a=>
 bif decide (a.2<(↑(Vb e.2.2.2.2.1):Int)) then
 Va (idx e.2.2.2.2.1 a.2) fun g=>
 bif g.2.2.2.1 then
 Va (Zy (decide (Vb a.1.2.2.2.2.1+Vb [g]<=ZC))) fun _=>
 some
 (.inl
 ((a.1.1,a.1.2.1,a.1.2.2.1,a.1.2.2.2.1,a.1.2.2.2.2.1++[g],a.1.2.2.2.2.2.1,()),
 Vc .i64 (a.2+(1:Int))))
 else
 some
 (.inl
 (a.1,
 Vc .i64 (a.2+(1:Int))))
 else some (.inr a.1))
 ((d.1,d.2.1,d.2.2.1,d.2.2.2.1,[],d.2.2.2.2.2.1,()),(0:Int)))
 fun j=>some (j,(0:Int))
 else some (d,(0:Int))
def F33E:Zp:=Wm 34 Tryz.f34 70 [F31E,F67E,F36E,F34E] (hS (hS (hS (.seq (hS (.lp (en [(7,Pz0),pd 24 Y3] [2,3,4,22,23]) [(.exit 0,en [(7,Pz0)] [2,3,4])] .leaf)) (.seq (hS (.cnd none (hS (hS (.lp (en [(7,(.var Zh (.agg (.cons (.pd J6) (.cons (.pd J7) (.cons (.own Xp false) (.cons (.own Yt false) (.cons (.own KV false) (.cons (.pd KK) .nil))))))))),pd 56 Y3] [4,54,55]) [(.exit 2,en [(7,(.var Zh (.agg (.cons (.pd J6) (.cons (.pd J7) (.cons (.own Xp false) (.cons (.own Yt false) (.cons (.own KV false) (.cons (.pd KK) .nil)))))))))] [4])] .leaf))) .leaf)) .leaf))))) (.p Zh (.q Zm)) (.p Zh (.q ZP)) (u2 F33) (fun z=>(((),(),()),(z.1,z.2,()))) (fun y=>(y.2.1,y.2.2.1))
def F96:(El Zh)->(El Zm)->Option (El HA):=fun c b=>
 Va
 (run
 (fun s0=>
 bif decide (s0.2<(↑(Vb c.2.2.2.2.1):Int)) then
 Va (idx c.2.2.2.2.1 s0.2) fun a=>
 Va (bif decide (a.1=b.1) then some (decide (a.2.2.1<=b.2.2.2.2.2.1)) else some false) fun d=>
 bif d then
 Va (Zy (decide (Vb s0.1+Vb [(a.2.1,a.2.2.1,())]<=ZC))) fun _=>
 some (.inl (s0.1++[(a.2.1,a.2.2.1,())],Vc .i64 (s0.2+(1:Int))))
 else some (.inl (s0.1,Vc .i64 (s0.2+(1:Int))))
 else some (.inr s0.1))
 ([(b.1,(0:Int),())],(0:Int)))
 fun e=>some e
def F96E:Zp:=Z5 35 Tryz.f35 41 [] (hS (hS (.seq (hS (.lp (en [(5,.own Zbv false),pd 15 Y3] [3,13,14]) [(.exit 0,en [(5,.own Zbv false)] [])] (hS (hS (.seq (hS (.seq (.reg [(30,Y4)]) .leaf)) .leaf))))) .leaf))) (.p Zh (.q Zm)) (.pd HA) (u2 F96)
def F162(a:List (El Y3)):Option (List (El Y3)):=Tr.sortI a
def F162S:Tr.Spec:= {args:=(.cons (.own Y3 true) .nil),res:=.nil,fns:=[],α:=List (El Y3),f:=fun x=>F162 x.1,unp:=fun z=>((z,()),())}
theorem F162_ok:ZL Tryz.prog 75 F162S:=Tr.sortInt_ok (ρ:=Tryz.sort75_ren) Tryz.sort75 ⟨_,Tryz.func75,rfl,rfl⟩
def F162E:Zp:=⟨75,F162S,F162_ok⟩
def F150(a:List (El Y3)):Option (List (El Y3)):=Tr.compactI a
def F150S:Tr.Spec:= {args:=(.cons (.own Y3 false) .nil),res:=(.cons (.own Y3 false) .nil),fns:=[],α:=List (El Y3),f:=fun x=>F150 x.1,unp:=fun z=>(((),()),(z,()))}
theorem F150_ok:ZL Tryz.prog 76 F150S:=Tr.compactInt_ok (ρ:=Tryz.comp76_ren) Tryz.comp76 ⟨_,Tryz.func76,rfl,rfl⟩
def F150E:Zp:=⟨76,F150S,F150_ok⟩
def F113:(El Zh)->(El Zm)->(El HA)->(El Y3)->Option (El W5):=fun h k i l=>
 Va
 (run
 (fun s0=>
 bif decide (s0.2<(↑(Vb h.2.2.1):Int)) then
 Va (idx h.2.2.1 s0.2) fun j=>
 Va
 (run
 (fun b=>
 bif decide (b.2<(↑(Vb j.2.2.2.2.2.2.2.1):Int)) then
 Va (idx j.2.2.2.2.2.2.2.1 b.2) fun c=>
 Va
 (run
 (fun a=>
 bif decide (a.2<(↑(Vb i):Int)) then
 Va (idx i a.2) fun d=>
 Va
 (bif decide (c.1=d.1) then
 bif decide (k.2.2.1<=Vc .i64 (c.2.2.1 - d.2.1)) then
 some (decide (Vc .i64 (c.2.2.1 - d.2.1)<=l))
 else some false
 else some false)
 fun m=>
 bif m then
 Va (Zy (decide (Vb a.1+Vb [Vc .i64 (c.2.2.1 - d.2.1)]<=ZC))) fun _=>
 some (.inl (a.1++[Vc .i64 (c.2.2.1 - d.2.1)],Vc .i64 (a.2+(1:Int))))
 else some (.inl (a.1,Vc .i64 (a.2+(1:Int))))
 else some (.inr a.1))
 (b.1,(0:Int)))
 fun n=>some (.inl (n,Vc .i64 (b.2+(1:Int))))
 else some (.inr b.1))
 (s0.1,(0:Int)))
 fun o=>some (.inl (o,Vc .i64 (s0.2+(1:Int))))
 else some (.inr s0.1))
 ([],(0:Int)))
 fun e=>Va (F162 e) fun f=>Va (F150 f) fun g=>some g
def F113E:Zp:=Z5 36 Tryz.f36 69 [F162E,F150E] (hS (hS (.seq (hS (.lp (en [(9,.own Y3 false),pd 20 Y3] [2,3,5,18,19]) [(.exit 0,en [(9,.own Y3 false)] [])] (hS (hS (.seq (hS (hS (.lp (en [(9,.own Y3 false),pd 27 Y3] [2,3,5,18,19,20,25,26]) [(.exit 2,en [(9,.own Y3 false)] [2,3,5,18,19,20])] (hS (hS (.seq (hS (hS (.lp (en [(9,.own Y3 false),pd 33 Y3] [2,3,5,13,18,19,20,25,26,27,31,32]) [(.exit 4,en [(9,.own Y3 false)] [2,3,5,18,19,20,25,26,27])] (hS (hS (.seq (hS (hS (.seq (.reg [(57,Y4)]) .leaf))) .leaf)))))) .leaf)))))) .leaf))))) .leaf))) (.p Zh (.p Zm (.p HA (.q Y3)))) (.pd W5) (u4 F113)
def F56:(El Zh)->(El Jp)->Option (El Y4):=fun b a=>
 Va
 (bif decide ((0:Int)<=a.2.1) then
 bif decide (a.2.1<(↑(Vb b.2.2.1):Int)) then
 bif decide ((0:Int)<=a.2.2.1) then
 bif decide (a.2.2.1<a.2.2.2.1) then
 Va (idx b.2.2.1 a.2.1) fun c=>some (decide (a.2.2.2.1<(↑(Vb c.2.2.2.2.2.2.2.1):Int)))
 else some false
 else some false
 else some false
 else some false)
 fun d=>some d
def F56E:Zp:=Z5 136 Tryz.f136 41 [] (hS (.seq (.reg [(4,Y4)]) .leaf)) (.p Zh (.q Jp)) (.pd Y4) (u2 F56)
def F5:(El Y3)->Option (El KE):=fun a=>
 Va (bif decide (a<(0:Int)) then some true else some (decide ((63:Int)<a))) fun b=>
 bif b then some (0:Int) else Va (GH .u64 (1:Int) a) fun c=>some c
def F5E:Zp:=Z5 198 Tryz.f198 11 [] (hS (.seq (.seq (.reg [(8,Y4)]) .leaf) .leaf)) (.q Y3) (.pd KE) (u1 F5)
def F3:(El KE)->(El Y3)->Option (El KE):=fun a b=>Va (F5 b) fun c=>some (Wy .u64 a c)
def F3E:Zp:=Z5 197 Tryz.f197 9 [F5E] .leaf (.p KE (.q Y3)) (.pd KE) (u2 F3)
def F57:(El Zh)->(El Jp)->Option (El KE):=fun e d=>
 Va (idx e.2.2.1 d.2.1) fun c=>
 Va
 (sliceB (Vb c.2.2.2.2.2.2.2.1) (Vb c.2.2.2.2.2.2.2.1) (some d.2.2.1)
 (some (Vc .i64 (d.2.2.2.1+(1:Int)))))
 fun a=>
 Va
 (run
 (fun b=>
 bif decide (b.2<(↑(Vb (Vg (a.2 - a.1) (Vi a.1 c.2.2.2.2.2.2.2.1))):Int)) then
 Va (idx (Vg (a.2 - a.1) (Vi a.1 c.2.2.2.2.2.2.2.1)) b.2) fun f=>
 Va (idx e.1 f.1) fun g=>Va (F3 b.1 g.2.1) fun h=>some (.inl (h,Vc .i64 (b.2+(1:Int))))
 else some (.inr b.1))
 ((0:Int),(0:Int)))
 fun i=>some i
def F57E:Zp:=Z5 134 Tryz.f134 37 [F3E] (hS (hS (.seq (hS (.lp (en [pd 5 KE,pd 22 Y3] [2,20,21]) [(.exit 0,en [pd 5 KE] [])] .leaf)) .leaf))) (.p Zh (.q Jp)) (.pd KE) (u2 F57)
def F0:(El W5)->Option (El KE):=fun a=>
 Va
 (run
 (fun s0=>
 bif decide (s0.2<(↑(Vb a):Int)) then
 Va (idx a s0.2) fun b=>Va (F5 b) fun c=>some (.inl (Wy .u64 s0.1 c,Vc .i64 (s0.2+(1:Int))))
 else some (.inr s0.1))
 ((0:Int),(0:Int)))
 fun d=>some d
def F0E:Zp:=Z5 135 Tryz.f135 18 [F5E] (hS (hS (.seq (hS (.lp (en [pd 3 KE,pd 8 Y3] [6,7]) [(.exit 0,en [pd 3 KE] [])] .leaf)) .leaf))) (.q W5) (.pd KE) (u1 F0)
def F54:(El Jp)->(El Zh)->(List (El WP))->Option (List (El WP)):=fun b h c=>
 Va (F57 h b) fun g=>
 Va (idx h.2.2.1 b.2.1) fun k=>
 Va (idx h.2.1 k.2.2.2.2.1) fun l=>
 Va (F0 [l.2.1]) fun i=>
 bif !b.2.2.2.2.2.2.2.2.1 then
 Va
 (Zy
 (decide
 (Vb c+Vb [(b.2.2.2.2.2.2.1,b.2.2.2.2.2.2.2.1,Vc .i64 g,Vc .i64 i,())]<=
 ZC)))
 fun _=>some (c++[(b.2.2.2.2.2.2.1,b.2.2.2.2.2.2.2.1,Vc .i64 g,Vc .i64 i,())])
 else
 Va (ZA (Vc .i64 ((↑(Vb c):Int) - (1:Int))) (Vb c)) fun a=>
 Va c[a]? fun d=>
 Va (Vd c a (d.1,b.2.2.2.2.2.2.2.1,d.2.2))[a]? fun j=>
 Va (Vd c a (d.1,b.2.2.2.2.2.2.2.1,d.2.2))[a]? fun f=>
 Va
 (Vd (Vd c a (d.1,b.2.2.2.2.2.2.2.1,d.2.2)) a
 (f.1,f.2.1,Wy .i64 j.2.2.1 (Vc .i64 g),f.2.2.2))[a]?
 fun m=>
 Va
 (Vd (Vd c a (d.1,b.2.2.2.2.2.2.2.1,d.2.2)) a
 (f.1,f.2.1,Wy .i64 j.2.2.1 (Vc .i64 g),f.2.2.2))[a]?
 fun e=>
 some
 (Vd
 (Vd (Vd c a (d.1,b.2.2.2.2.2.2.2.1,d.2.2)) a
 (f.1,f.2.1,Wy .i64 j.2.2.1 (Vc .i64 g),f.2.2.2))
 a (e.1,e.2.1,e.2.2.1,Wy .i64 m.2.2.2.1 (Vc .i64 i),e.2.2.2.2))
def F54E:Zp:=Wm 133 Tryz.f133 65 [F57E,F0E] .leaf (.p Jp (.cons (.ro Zh) (.cons (.var WO (.own WP false)) .nil))) .nil (u3 F54) (fun z=>(((),(),z,()),())) (fun y=>y.1.2.2.1)
def F53:(El Zh)->(El GZ)->Option (El WO×El ZP):=fun d e=>
 Va (F66 d) fun f=>
 bif !decide (f.2.2=(0:Int)) then some ([],(21:Int))
 else
 Va
 (run
 (fun a=>
 bif decide (a.2.2<(↑(Vb e.1):Int)) then
 Va (idx e.1 a.2.2) fun b=>
 Va (bif b.1 then Va (F56 d b) fun g=>some !g else some false) fun h=>
 bif h then some (.inr (.inr ([],(9:Int))))
 else
 Va (bif b.2.2.2.2.2.2.2.2.1 then bif !b.1 then some true else some !a.2.1 else some false) fun i=>
 bif i then some (.inr (.inr ([],(19:Int))))
 else
 Va (bif b.1 then Va (F54 b d a.1) fun j=>some j else some a.1) fun k=>
 some (.inl (k,b.1,Vc .i64 (a.2.2+(1:Int))))
 else some (.inr (.inl a.1)))
 ([],false,(0:Int)))
 fun l=>Vf (fun m=>some (m,(0:Int))) (fun c=>some (c.1,c.2)) l
def F53E:Zp:=Wm 82 Tryz.f82 58 [F66E,F54E,F56E] (hS (hS (hS (hS (hS (.seq (hS (.lp ⟨[(9,.var WO (.own WP false)),pd 11 Y4,pd 26 Y3],[(10,133,[2,9])],[2,24,25],[],[],[]⟩ [(.exit 0,en [(9,.var WO (.own WP false))] []),(.ret,en [pd 4 WO,pd 5 ZP] [])] (hS (hS (.seq (hS (.seq (.seq (.reg [(37,Y4)]) .leaf) (.seq (.seq (.reg [(48,Y4)]) .leaf) (.seq (hS (.cnd (some ((en [] [2,13,24,25,26]),[(.normal,⟨[(9,.var WO (.own WP false))],[(10,133,[2,9])],[2,13,24,25,26],[],[],[]⟩)])) .leaf .leaf)) .leaf)))) .leaf))))) .leaf)))))) (.p Zh (.q GZ)) (.p WO (.q ZP)) (u2 F53) (fun z=>(((),(),()),(z.1,z.2,()))) (fun y=>(y.2.1,y.2.2.1))
def F17:(El KK)->(El WO)->Option (El ZP):=fun a b=>
 Va (F83 a) fun c=>
 bif !decide (c.2=(0:Int)) then some (20:Int) else bif decide ((8:Int)<(↑(Vb b):Int)) then some (33:Int) else some (0:Int)
def F17E:Zp:=Z5 137 Tryz.f137 17 [F83E] .leaf (.p KK (.q WO)) (.pd ZP) (u2 F17)
def F18:(El Y3)->(El Y3)->(El Y3)->Option (El Y4):=fun a b c=>
 Va
 (bif decide (b<=a) then some true
 else some (decide (Vc .u64 (Vc .u64 b - Vc .u64 a)<=Vc .u64 c)))
 fun d=>some d
def F18E:Zp:=Z5 235 Tryz.f235 20 [] (hS (.seq (.reg [(6,Y4)]) .leaf)) (.p Y3 (.p Y3 (.q Y3))) (.pd Y4) (u3 F18)
end
end Q

