/- The functions of the program as functions of Lean, and that the program computes them; printed by a program of mine. Conditions: none. -/
import Derived.KernelRfl
import Derived.Test.YtdpenljjnfmgiaaGreatProg
import Derived.Test.YtdpenljjnfmgiaaGreatETrY
import Derived.Test.YtdpenljjnfmgiaaGreatETsF
import Derived.Test.YtdpenljjnfmgiaaGreatLay45
import Derived.Test.YtdpenljjnfmgiaaGreatClo45
import Derived.Test.YtdpenljjnfmgiaaGreatSam45
import Derived.Test.YtdpenljjnfmgiaaGreatLen45
open Tr Go Go.Proofs Tryz
open Int renaming toNat ->R,fdiv ->Vd
open Go.IntKind renaming wrap ->Vb
open List renaming length ->Ve,isEmpty ->Vg,replicate ->Vh,take ->Vi,drop ->Vj,set ->Vk
open Option renaming bind ->Va
open Sum renaming elim ->Vl
open UInt8 renaming toNat ->Vf
open Option renaming some ->J,none ->Ub
open Bool renaming true ->Uc,false ->Ud
open Decidable renaming decide ->U
namespace Q
noncomputable section
abbrev hS(h:K3):K3:=.seq .leaf h
abbrev Y3:Ty:=.int .i64
abbrev Y4:Ty:=.bool
abbrev Y9:Ty:=.str
abbrev Zab:Ty:=.prod Y9 (.prod Y3 (.prod Y4 (.prod Y3 .unit)))
abbrev Xn:Ty:=.sl Zab
abbrev Zac:Ty:=.prod Y9 (.prod Y3 (.prod Y4 .unit))
abbrev Xo:Ty:=.sl Zac
abbrev G4:Ty:=.prod Y3 (.prod Y3 (.prod Y3 (.prod Y4 (.prod Y4 .unit))))
abbrev Xc:Ty:=.sl G4
abbrev XJ:Ty:=.prod Y3 (.prod Y3 (.prod Y3 (.prod Y9 (.prod Y3 (.prod Y4 (.prod Y4 (.prod Xc .unit)))))))
abbrev Rt:Ty:=.sl XJ
abbrev YS:Ty:=.prod Y3 (.prod Y3 (.prod Y3 (.prod Y3 (.prod Y4 .unit))))
abbrev Ru:Ty:=.sl YS
abbrev K8:Ty:=.prod Y3 (.prod Y3 (.prod Y3 (.prod Y4 .unit)))
abbrev Wx:Ty:=.sl K8
abbrev JX:Ty:=.prod Y9 (.prod Y3 (.prod Y3 (.prod Y3 (.prod Y3 (.prod Y3 .unit)))))
abbrev HD:Ty:=.sl JX
abbrev KL:Ty:=.prod HD (.prod Y3 (.prod Y3 (.prod Y3 .unit)))
abbrev Zh:Ty:=.prod Xn (.prod Xo (.prod Rt (.prod Ru (.prod Wx (.prod KL .unit)))))
abbrev Zk:Ty:=.prod Y3 (.prod Y3 (.prod Y3 (.prod Y4 (.prod Y3 (.prod Y3 (.prod Y4 (.prod Y4 (.prod Y3 (.prod Y4 .unit)))))))))
abbrev ZI:Ty:=.int .i64
abbrev KZ:Ty:=.prod Y4 (.prod Y3 (.prod Y3 (.prod Y3 (.prod Y3 (.prod Y3 (.prod Y3 (.prod Y3 (.prod Y4 .unit))))))))
abbrev Xa:Ty:=.sl KZ
abbrev Jl:Ty:=.sl Y3
abbrev JK:Ty:=.pt KL
abbrev WS:Ty:=.prod Y3 (.prod Y3 (.prod Y3 (.prod Y3 .unit)))
abbrev DJ:Ty:=.arr 9 Y3
abbrev Wn:Ty:=.lk JK (.prod WS (.prod Y3 (.prod DJ .unit)))
abbrev Y94:Ty:=.prod Y3 (.prod Y3 (.prod Y3 (.prod Y3 (.prod Y3 (.prod Y4 (.prod Wn (.prod Xa .unit)))))))
abbrev Y91:Ty:=.pt Y94
abbrev Wm:Ty:=.sl Y91
abbrev Wl:Ty:=.sl WS
abbrev ZC:Ty:=.sl Jl
abbrev Zbd:Ty:=.sl Wm
abbrev Zad:Ty:=.prod Zh (.prod Zk (.prod ZC (.prod Zbd (.prod Wm (.prod Wm .unit)))))
abbrev H5:Ty:=.int .u64
abbrev Zd2:Ty:=.prod JK (.prod Wn (.prod WS (.prod Y3 (.prod DJ .unit))))
abbrev Ww:Ty:=.prod Y91 (.prod Y3 (.prod Y3 (.prod Y4 (.prod WS (.prod Jl .unit)))))
abbrev KQ:Ty:=.int .u64
abbrev Zjd:Ty:=.ref
abbrev HE:Ty:=.prod Y3 (.prod Y3 (.prod Y3 (.prod Y3 (.prod H5 .unit))))
abbrev Zcy:Ty:=.sl HE
def tyTab:List (Nat×Ty):=[(3,Y3),(4,Y4),(9,Y9),(128,Zab),(22,Xn),(130,Zac),(23,Xo),(145,G4),(76,Xc),(78,XJ),(24,Rt),(199,YS),(25,Ru),(141,K8),(26,Wx),(133,JX),(27,HD),(29,KL),(31,Zh),(33,Zk),(35,ZI),(82,KZ),(46,Xa),(87,Jl),(206,JK),(173,WS),(207,DJ),(92,Wn),(94,Y94),(91,Y91),(89,Wm),(111,Wl),(153,ZC),(154,Zbd),(156,Zad),(184,H5),(209,Zd2),(212,Ww),(215,KQ),(249,Zjd),(322,HE),(319,Zcy)]
def mapTab:List (Nat×Ty×Ty):=[(249,Y9,Y4)]
def pkTab:List (Nat×Nat):=[(91,1),(92,1)]
def bdTab:List (Nat×Nat):=[]
theorem K9:Tryz.prog.follows .mixedOrders=true:=by kernel_rfl
theorem tab_ok:HT Tryz.prog tyTab mapTab pkTab bdTab=true:=by kernel_rfl
abbrev pd(n:Nat)(t:Ty):Nat×Pat:=(n,.pd t)
abbrev en(a:List (Nat×Pat))(c:List Nat):WQ:=⟨a,[],c,[],[],[]⟩
abbrev e0:WQ:=⟨[],[],[],[],[],[]⟩
variable {a b c d e g z:Type}
abbrev u1(f:a->z)(x:a×Unit):z:=f x.1
abbrev u2(f:a->b->z)(x:a×b×Unit):z:=f x.1 x.2.1
abbrev u3(f:a->b->c->z)(x:a×b×c×Unit):z:=f x.1 x.2.1 x.2.2.1
abbrev u4(f:a->b->c->d->z)(x:a×b×c×d×Unit):z:=f x.1 x.2.1 x.2.2.1 x.2.2.2.1
abbrev u5(f:a->b->c->d->e->z)(x:a×b×c×d×e×Unit):z:=f x.1 x.2.1 x.2.2.1 x.2.2.2.1 x.2.2.2.2.1
abbrev u6(f:a->b->c->d->e->g->z)(x:a×b×c×d×e×g×Unit):z:=f x.1 x.2.1 x.2.2.1 x.2.2.2.1 x.2.2.2.2.1 x.2.2.2.2.2.1
structure Zn where
 i:Nat
 S:Tr.Spec
 ok:ZS Tryz.prog i S
def Dk:List Zn->List (Nat×List Tr.Spec)
 |[]=>[]
 |e::l=>(e.i,e.S::(l.filter fun d=>Nat.beq d.i e.i).map Zn.S)::Dk l
theorem Zh6:∀l,R5 Tryz.prog (Dk l)
 |[]=>trivial
 |e::l=>⟨⟨e.ok,f e.i _ fun d j=>Nat.eq_of_beq_eq_true (List.mem_filter.1 j).2⟩,Zh6 l⟩
where f (i:Nat):∀l:List Zn,(∀d∈l,d.i=i)->R6 Tryz.prog i (l.map Zn.S)
 |[],_=>trivial
 |e::l,h=>⟨h e (by simp) ▸e.ok,f i l fun d j=>h d (by simp [j])⟩
abbrev _root_.Tr.Pats.p(t:Ty)(l:Pats):Pats:=.cons (.pd t) l
abbrev _root_.Tr.Pats.q(t:Ty):Pats:=.cons (.pd t) .nil
def Zc0(i:Nat)(fn:Func)(nt:Nat)(l:List Zn)(hint:K3)(args res:Pats){α:Type}(f:Ks args->Option α)(unp:α->We args×Ks res)(pack:We args×Ks res->α)(rws zxs:List Nat:=[])(fns:List FuncId:=[])(pl:Bool:=true)(kp:List (Nat×Nat×Nat):=[])
    (n:∀x z,f x=J z->XO (mkE tyTab mapTab pkTab rws zxs (Dk l) nt bdTab) (KX fn) fn.results hint args res pack x kp=J z:=by intro x z h;exact .trans (by kernel_rfl) h)
    (t:Tryz.prog.funcs[i]? =some fn:=by kernel_rfl) (s:fn.body=some (KX fn):=by kernel_rfl) (o:nt=fn.ntmps:=by kernel_rfl) (j:(fn.name== "runtime.NumGoroutine")=false:=by kernel_rfl)
    (r:args.wf=true:=by kernel_rfl) (m:Nat.ble args.len nt=true:=by kernel_rfl) (k:∀y,unp (pack y)=y:=by intro y;rfl) (q:(!pl|| (Dk l).all fun p=>p.2.all (·.pl))=true:=by kernel_rfl):Zn:=
 ⟨i, {args,res,fns,α,f,unp,pl,kp},WZ K9 tab_ok (Zh6 l) n t s o j r m k q⟩
def Ys(i:Nat)(fn:Func)(nt:Nat)(l:List Zn)(hint:K3)(args:Pats)(r:Pat)(f:Ks args->Option (K2 r))(rws zxs:List Nat:=[])(fns:List FuncId:=[])(pl:Bool:=true)(u:We args:=by repeat' constructor)
    (n:∀x z,f x=J z->XO (mkE tyTab mapTab pkTab rws zxs (Dk l) nt bdTab) (KX fn) fn.results hint args (Pats.cons r .nil) (fun y:We args×Ks (Pats.cons r .nil)=>(y.2.1:K2 r)) x []=J z:=by intro x z h;exact .trans (by kernel_rfl) h)
    (v:Tryz.prog.funcs[i]? =some fn:=by kernel_rfl) (t:fn.body=some (KX fn):=by kernel_rfl) (o:nt=fn.ntmps:=by kernel_rfl) (j:(fn.name== "runtime.NumGoroutine")=false:=by kernel_rfl)
    (s:args.wf=true:=by kernel_rfl) (m:Nat.ble args.len nt=true:=by kernel_rfl) (k:∀y:We args,u=y:=by intro y;rfl) (q:(!pl|| (Dk l).all fun p=>p.2.all (·.pl))=true:=by kernel_rfl):Zn:=
 Zc0 i fn nt l hint args (.cons r .nil) f (fun z=>(u,(z,()))) (fun y=>y.2.1) rws zxs fns pl [] n v t o j s m (fun y=>by rw[k y.1]) q
abbrev Pz1:Pat:=.agg (.cons (.pd Xn) (.cons (.pd Xo) (.cons (.own XJ Ud) (.cons (.own YS Ud) (.cons (.pd Wx) (.cons (.pd KL) .nil))))))
abbrev Pz0:Pat:=.var Zh Pz1
abbrev Tz0:=El Zh×El Zk×El ZC×List (List (El Y91)) ×List (El Y91) ×List (El Y91) ×Unit
def F29(f:El JK)(h:El JK):Option Bool:=Qs.sameF f h
abbrev F29A:Pats:=(.cons (.pd JK) (.cons (.pd JK) .nil))
abbrev F29R:Pats:=(.cons (.pd Y4) .nil)
def F29S:Tr.Spec:= {args:=F29A,res:=F29R,fns:=[],α:=El Y4,f:=fun x=>F29 x.1 x.2.1,unp:=fun z=>(((),(),()),(z,()))}
theorem F29_ok:ZS Tryz.prog 247 F29S:=Qs.sam_ok
def F29E:Zn:=⟨247,F29S,F29_ok⟩
def F27:(El Wn)->(El Wn)->Option (El Y4):=fun f h=>
 Va (Tr.unc f) fun _=>
 Va (Tr.unc f) fun v=>
 Va (Tr.unc f) fun _=>
 Va (Tr.unc f) fun w=>
 Va (idx w.2.2.2.2.1 v.2.2.2.1) fun t=>
 Va (Tr.unc h) fun _=>
 Va (Tr.unc h) fun x=>
 Va (Tr.unc h) fun _=>
 Va (Tr.unc h) fun y=>
 Va (idx y.2.2.2.2.1 x.2.2.2.1) fun u=>
 bif U (u<(0:Int)) then J Uc
 else
 Va (bif U (t<(0:Int)) then J Uc else J (U (u<t))) fun k=>
 bif k then J Ud
 else
 Va
 (Va (Tr.unc f) fun _=>
 Va (Tr.unc f) fun i=>
 Va i.1 fun _=>
 Va i.1 fun l=>
 bif U (l.2.1=(0:Int)) then J Uc
 else
 Va (Tr.unc h) fun _=>
 Va (Tr.unc h) fun m=>
 bif U (m.2.2.2.1=(0:Int)) then J Uc
 else
 Va (Tr.unc f) fun _=>
 Va (Tr.unc f) fun j=>
 Va j.1 fun _=>Va j.1 fun n=>J (U (Vb .i64 (t+n.2.1)<=u)))
 fun o=>
 bif o then J Uc
 else
 Va
 (Va (Tr.unc f) fun _=>
 Va (Tr.unc f) fun p=>
 bif U ((0:Int)<p.2.2.2.1) then
 Va (Tr.unc f) fun _=>
 Va (Tr.unc f) fun q=>
 Va (Tr.unc h) fun _=>Va (Tr.unc h) fun r=>J (U (r.2.2.1.2.1<=q.2.2.1.2.1))
 else J Ud)
 fun s=>J s
def F27E:Zn:=Ys 248 f248 83 [] (hS (hS (.seq (hS (.cnd Ub .leaf (.seq (.reg [(28,Y4)]) (.cnd Ub .leaf (.seq (.reg [(36,Y4)]) .leaf))))) (.seq (.reg [(4,Y4)]) .leaf)))) (.p Wn (.q Wn)) (.pd Y4) (u2 F27)
def F23:(El Wn)->Option (List (El WS)):=fun h=>
 Va (Tr.unc h) fun _=>
 Va (Tr.unc h) fun i=>
 Va
 (Zz
 (decide
 ((0:El (Tr.Ty.int .i64))<=i.2.2.2.1/\i.2.2.2.1<=i.2.2.2.1/\i.2.2.2.1<=(↑ZD:El (Tr.Ty.int .i64)))))
 fun _=>
 Va (Tr.unc h) fun _=>
 Va (Tr.unc h) fun m=>
 Va
 (run
 (fun f=>
 bif U ((0:Int)<=f.2.2) then
 Va (Tr.unc f.1) fun _=>
 Va (Tr.unc f.1) fun n=>
 Va (Zs f.2.2 (Ve f.2.1)) fun l=>
 Va f.2.1[l]? fun _=>
 Va (Tr.unc f.1) fun _=>
 Va (Tr.unc f.1) fun j=>J (.inl (j.2.1,Vk f.2.1 l n.2.2.1,Vb .i64 (f.2.2 - (1:Int))))
 else J (.inr f.2.1))
 (h,Vh (R i.2.2.2.1) (((0:Int),(0:Int),(0:Int),(0:Int),())),Vb .i64 (m.2.2.2.1 - (1:Int))))
 fun k=>J k
def F23E:Zn:=Ys 245 f245 31 [] (hS (hS (.seq (hS (.lp (en [pd 0 Wn,(3,.own WS Ud),pd 4 Y3] []) [(.exit 0,en [(3,.own WS Ud)] [])] .leaf)) .leaf))) (.q Wn) (.own WS Ud) (u1 F23)
def F24:(El Wn)->Option (El Wl):=fun h=>
 Va (Tr.unc h) fun _=>
 Va (Tr.unc h) fun i=>
 Va
 (Zz
 (decide
 ((0:El (Tr.Ty.int .i64))<=i.2.2.2.1/\i.2.2.2.1<=i.2.2.2.1/\i.2.2.2.1<=(↑ZD:El (Tr.Ty.int .i64)))))
 fun _=>
 Va (Tr.unc h) fun _=>
 Va (Tr.unc h) fun m=>
 Va
 (run
 (fun f=>
 bif U ((0:Int)<=f.2.2) then
 Va (Tr.unc f.1) fun _=>
 Va (Tr.unc f.1) fun n=>
 Va (Zs f.2.2 (Ve f.2.1)) fun l=>
 Va f.2.1[l]? fun _=>
 Va (Tr.unc f.1) fun _=>
 Va (Tr.unc f.1) fun j=>J (.inl (j.2.1,Vk f.2.1 l n.2.2.1,Vb .i64 (f.2.2 - (1:Int))))
 else J (.inr f.2.1))
 (h,Vh (R i.2.2.2.1) (((0:Int),(0:Int),(0:Int),(0:Int),())),Vb .i64 (m.2.2.2.1 - (1:Int))))
 fun k=>J k
def F24E:Zn:=Ys 245 f245 31 [] (hS (hS (.seq (hS (.lp (en [pd 0 Wn,(3,.own WS Ud),pd 4 Y3] []) [(.exit 0,en [(3,.own WS Ud)] [])] .leaf)) .leaf))) (.q Wn) (.pd Wl) (u1 F24)
def F30:(El Y3)->(El Y3)->(El Y3)->Option (El Y4):=fun f h i=>
 Va
 (bif U (h<=f) then J Uc
 else J (U (Vb .u64 (Vb .u64 h - Vb .u64 f)<=Vb .u64 i)))
 fun j=>J j
def F30E:Zn:=Ys 253 f253 20 [] (hS (.seq (.reg [(6,Y4)]) .leaf)) (.p Y3 (.p Y3 (.q Y3))) (.pd Y4) (u3 F30)
def F25:(El Wn)->(El JX)->(El Wl)->(El Y3)->Option (El Y3):=fun f j k h=>
 Va
 (bif U ((0:Int)<h) then
 Va (idx k (Vb .i64 (h - (1:Int)))) fun n=>
 Va (idx k h) fun o=>
 Va (Tr.unc f) fun _=>
 Va (Tr.unc f) fun l=>Va l.1 fun _=>Va l.1 fun p=>Va (F30 n.2.1 o.1 p.2.2.1) fun q=>J q
 else J Ud)
 fun r=>
 bif r then
 Va (Tr.unc f) fun _=>
 Va (Tr.unc f) fun m=>Va m.1 fun _=>Va m.1 fun i=>J (Tr.imax (0:Int) (Vb .i64 (j.2.1 - i.2.1)))
 else J j.2.1
def F25E:Zn:=Ys 246 f246 45 [F30E] (hS (.seq (.seq (.reg [(31,Y4)]) .leaf) .leaf)) (.p Wn (.p JX (.p Wl (.q Y3)))) (.pd Y3) (u4 F25)
def F64:(El H5)->Option (El Y3):=fun f=>
 J
 (ZG .i64
 (Vb .i64
 (Vb .u64
 (Vb .u64
 (Vb .u64
 (ZG .u64
 (Vb .u64
 (Vd
 (Vb .u64
 (ZG .u64
 (Vd
 (Vb .u64
 (ZG .u64 (Vd f ((2:Int) ^ Min.min (R (1:Int)) (Go.IntKind.bits .u64))) (6148914691236517205:Int)+
 ZG .u64 f (6148914691236517205:Int)))
 ((2:Int) ^ Min.min (R (2:Int)) (Go.IntKind.bits .u64)))
 (3689348814741910323:Int)+
 ZG .u64
 (Vb .u64
 (ZG .u64 (Vd f ((2:Int) ^ Min.min (R (1:Int)) (Go.IntKind.bits .u64))) (6148914691236517205:Int)+
 ZG .u64 f (6148914691236517205:Int)))
 (3689348814741910323:Int)))
 ((2:Int) ^ Min.min (R (4:Int)) (Go.IntKind.bits .u64))+
 Vb .u64
 (ZG .u64
 (Vd
 (Vb .u64
 (ZG .u64 (Vd f ((2:Int) ^ Min.min (R (1:Int)) (Go.IntKind.bits .u64))) (6148914691236517205:Int)+
 ZG .u64 f (6148914691236517205:Int)))
 ((2:Int) ^ Min.min (R (2:Int)) (Go.IntKind.bits .u64)))
 (3689348814741910323:Int)+
 ZG .u64
 (Vb .u64
 (ZG .u64 (Vd f ((2:Int) ^ Min.min (R (1:Int)) (Go.IntKind.bits .u64))) (6148914691236517205:Int)+
 ZG .u64 f (6148914691236517205:Int)))
 (3689348814741910323:Int))))
 (1085102592571150095:Int)+
 Vd
 (ZG .u64
 (Vb .u64
 (Vd
 (Vb .u64
 (ZG .u64
 (Vd
 (Vb .u64
 (ZG .u64 (Vd f ((2:Int) ^ Min.min (R (1:Int)) (Go.IntKind.bits .u64))) (6148914691236517205:Int)+
 ZG .u64 f (6148914691236517205:Int)))
 ((2:Int) ^ Min.min (R (2:Int)) (Go.IntKind.bits .u64)))
 (3689348814741910323:Int)+
 ZG .u64
 (Vb .u64
 (ZG .u64 (Vd f ((2:Int) ^ Min.min (R (1:Int)) (Go.IntKind.bits .u64))) (6148914691236517205:Int)+
 ZG .u64 f (6148914691236517205:Int)))
 (3689348814741910323:Int)))
 ((2:Int) ^ Min.min (R (4:Int)) (Go.IntKind.bits .u64))+
 Vb .u64
 (ZG .u64
 (Vd
 (Vb .u64
 (ZG .u64 (Vd f ((2:Int) ^ Min.min (R (1:Int)) (Go.IntKind.bits .u64))) (6148914691236517205:Int)+
 ZG .u64 f (6148914691236517205:Int)))
 ((2:Int) ^ Min.min (R (2:Int)) (Go.IntKind.bits .u64)))
 (3689348814741910323:Int)+
 ZG .u64
 (Vb .u64
 (ZG .u64 (Vd f ((2:Int) ^ Min.min (R (1:Int)) (Go.IntKind.bits .u64))) (6148914691236517205:Int)+
 ZG .u64 f (6148914691236517205:Int)))
 (3689348814741910323:Int))))
 (1085102592571150095:Int))
 ((2:Int) ^ Min.min (R (8:Int)) (Go.IntKind.bits .u64)))+
 Vd
 (Vb .u64
 (ZG .u64
 (Vb .u64
 (Vd
 (Vb .u64
 (ZG .u64
 (Vd
 (Vb .u64
 (ZG .u64 (Vd f ((2:Int) ^ Min.min (R (1:Int)) (Go.IntKind.bits .u64))) (6148914691236517205:Int)+
 ZG .u64 f (6148914691236517205:Int)))
 ((2:Int) ^ Min.min (R (2:Int)) (Go.IntKind.bits .u64)))
 (3689348814741910323:Int)+
 ZG .u64
 (Vb .u64
 (ZG .u64 (Vd f ((2:Int) ^ Min.min (R (1:Int)) (Go.IntKind.bits .u64))) (6148914691236517205:Int)+
 ZG .u64 f (6148914691236517205:Int)))
 (3689348814741910323:Int)))
 ((2:Int) ^ Min.min (R (4:Int)) (Go.IntKind.bits .u64))+
 Vb .u64
 (ZG .u64
 (Vd
 (Vb .u64
 (ZG .u64 (Vd f ((2:Int) ^ Min.min (R (1:Int)) (Go.IntKind.bits .u64))) (6148914691236517205:Int)+
 ZG .u64 f (6148914691236517205:Int)))
 ((2:Int) ^ Min.min (R (2:Int)) (Go.IntKind.bits .u64)))
 (3689348814741910323:Int)+
 ZG .u64
 (Vb .u64
 (ZG .u64 (Vd f ((2:Int) ^ Min.min (R (1:Int)) (Go.IntKind.bits .u64))) (6148914691236517205:Int)+
 ZG .u64 f (6148914691236517205:Int)))
 (3689348814741910323:Int))))
 (1085102592571150095:Int)+
 Vd
 (ZG .u64
 (Vb .u64
 (Vd
 (Vb .u64
 (ZG .u64
 (Vd
 (Vb .u64
 (ZG .u64 (Vd f ((2:Int) ^ Min.min (R (1:Int)) (Go.IntKind.bits .u64))) (6148914691236517205:Int)+
 ZG .u64 f (6148914691236517205:Int)))
 ((2:Int) ^ Min.min (R (2:Int)) (Go.IntKind.bits .u64)))
 (3689348814741910323:Int)+
 ZG .u64
 (Vb .u64
 (ZG .u64 (Vd f ((2:Int) ^ Min.min (R (1:Int)) (Go.IntKind.bits .u64))) (6148914691236517205:Int)+
 ZG .u64 f (6148914691236517205:Int)))
 (3689348814741910323:Int)))
 ((2:Int) ^ Min.min (R (4:Int)) (Go.IntKind.bits .u64))+
 Vb .u64
 (ZG .u64
 (Vd
 (Vb .u64
 (ZG .u64 (Vd f ((2:Int) ^ Min.min (R (1:Int)) (Go.IntKind.bits .u64))) (6148914691236517205:Int)+
 ZG .u64 f (6148914691236517205:Int)))
 ((2:Int) ^ Min.min (R (2:Int)) (Go.IntKind.bits .u64)))
 (3689348814741910323:Int)+
 ZG .u64
 (Vb .u64
 (ZG .u64 (Vd f ((2:Int) ^ Min.min (R (1:Int)) (Go.IntKind.bits .u64))) (6148914691236517205:Int)+
 ZG .u64 f (6148914691236517205:Int)))
 (3689348814741910323:Int))))
 (1085102592571150095:Int))
 ((2:Int) ^ Min.min (R (8:Int)) (Go.IntKind.bits .u64))))
 ((2:Int) ^ Min.min (R (16:Int)) (Go.IntKind.bits .u64)))+
 Vd
 (Vb .u64
 (Vb .u64
 (ZG .u64
 (Vb .u64
 (Vd
 (Vb .u64
 (ZG .u64
 (Vd
 (Vb .u64
 (ZG .u64 (Vd f ((2:Int) ^ Min.min (R (1:Int)) (Go.IntKind.bits .u64))) (6148914691236517205:Int)+
 ZG .u64 f (6148914691236517205:Int)))
 ((2:Int) ^ Min.min (R (2:Int)) (Go.IntKind.bits .u64)))
 (3689348814741910323:Int)+
 ZG .u64
 (Vb .u64
 (ZG .u64 (Vd f ((2:Int) ^ Min.min (R (1:Int)) (Go.IntKind.bits .u64))) (6148914691236517205:Int)+
 ZG .u64 f (6148914691236517205:Int)))
 (3689348814741910323:Int)))
 ((2:Int) ^ Min.min (R (4:Int)) (Go.IntKind.bits .u64))+
 Vb .u64
 (ZG .u64
 (Vd
 (Vb .u64
 (ZG .u64 (Vd f ((2:Int) ^ Min.min (R (1:Int)) (Go.IntKind.bits .u64))) (6148914691236517205:Int)+
 ZG .u64 f (6148914691236517205:Int)))
 ((2:Int) ^ Min.min (R (2:Int)) (Go.IntKind.bits .u64)))
 (3689348814741910323:Int)+
 ZG .u64
 (Vb .u64
 (ZG .u64 (Vd f ((2:Int) ^ Min.min (R (1:Int)) (Go.IntKind.bits .u64))) (6148914691236517205:Int)+
 ZG .u64 f (6148914691236517205:Int)))
 (3689348814741910323:Int))))
 (1085102592571150095:Int)+
 Vd
 (ZG .u64
 (Vb .u64
 (Vd
 (Vb .u64
 (ZG .u64
 (Vd
 (Vb .u64
 (ZG .u64 (Vd f ((2:Int) ^ Min.min (R (1:Int)) (Go.IntKind.bits .u64))) (6148914691236517205:Int)+
 ZG .u64 f (6148914691236517205:Int)))
 ((2:Int) ^ Min.min (R (2:Int)) (Go.IntKind.bits .u64)))
 (3689348814741910323:Int)+
 ZG .u64
 (Vb .u64
 (ZG .u64 (Vd f ((2:Int) ^ Min.min (R (1:Int)) (Go.IntKind.bits .u64))) (6148914691236517205:Int)+
 ZG .u64 f (6148914691236517205:Int)))
 (3689348814741910323:Int)))
 ((2:Int) ^ Min.min (R (4:Int)) (Go.IntKind.bits .u64))+
 Vb .u64
 (ZG .u64
 (Vd
 (Vb .u64
 (ZG .u64 (Vd f ((2:Int) ^ Min.min (R (1:Int)) (Go.IntKind.bits .u64))) (6148914691236517205:Int)+
 ZG .u64 f (6148914691236517205:Int)))
 ((2:Int) ^ Min.min (R (2:Int)) (Go.IntKind.bits .u64)))
 (3689348814741910323:Int)+
 ZG .u64
 (Vb .u64
 (ZG .u64 (Vd f ((2:Int) ^ Min.min (R (1:Int)) (Go.IntKind.bits .u64))) (6148914691236517205:Int)+
 ZG .u64 f (6148914691236517205:Int)))
 (3689348814741910323:Int))))
 (1085102592571150095:Int))
 ((2:Int) ^ Min.min (R (8:Int)) (Go.IntKind.bits .u64)))+
 Vd
 (Vb .u64
 (ZG .u64
 (Vb .u64
 (Vd
 (Vb .u64
 (ZG .u64
 (Vd
 (Vb .u64
 (ZG .u64 (Vd f ((2:Int) ^ Min.min (R (1:Int)) (Go.IntKind.bits .u64))) (6148914691236517205:Int)+
 ZG .u64 f (6148914691236517205:Int)))
 ((2:Int) ^ Min.min (R (2:Int)) (Go.IntKind.bits .u64)))
 (3689348814741910323:Int)+
 ZG .u64
 (Vb .u64
 (ZG .u64 (Vd f ((2:Int) ^ Min.min (R (1:Int)) (Go.IntKind.bits .u64))) (6148914691236517205:Int)+
 ZG .u64 f (6148914691236517205:Int)))
 (3689348814741910323:Int)))
 ((2:Int) ^ Min.min (R (4:Int)) (Go.IntKind.bits .u64))+
 Vb .u64
 (ZG .u64
 (Vd
 (Vb .u64
 (ZG .u64 (Vd f ((2:Int) ^ Min.min (R (1:Int)) (Go.IntKind.bits .u64))) (6148914691236517205:Int)+
 ZG .u64 f (6148914691236517205:Int)))
 ((2:Int) ^ Min.min (R (2:Int)) (Go.IntKind.bits .u64)))
 (3689348814741910323:Int)+
 ZG .u64
 (Vb .u64
 (ZG .u64 (Vd f ((2:Int) ^ Min.min (R (1:Int)) (Go.IntKind.bits .u64))) (6148914691236517205:Int)+
 ZG .u64 f (6148914691236517205:Int)))
 (3689348814741910323:Int))))
 (1085102592571150095:Int)+
 Vd
 (ZG .u64
 (Vb .u64
 (Vd
 (Vb .u64
 (ZG .u64
 (Vd
 (Vb .u64
 (ZG .u64 (Vd f ((2:Int) ^ Min.min (R (1:Int)) (Go.IntKind.bits .u64))) (6148914691236517205:Int)+
 ZG .u64 f (6148914691236517205:Int)))
 ((2:Int) ^ Min.min (R (2:Int)) (Go.IntKind.bits .u64)))
 (3689348814741910323:Int)+
 ZG .u64
 (Vb .u64
 (ZG .u64 (Vd f ((2:Int) ^ Min.min (R (1:Int)) (Go.IntKind.bits .u64))) (6148914691236517205:Int)+
 ZG .u64 f (6148914691236517205:Int)))
 (3689348814741910323:Int)))
 ((2:Int) ^ Min.min (R (4:Int)) (Go.IntKind.bits .u64))+
 Vb .u64
 (ZG .u64
 (Vd
 (Vb .u64
 (ZG .u64 (Vd f ((2:Int) ^ Min.min (R (1:Int)) (Go.IntKind.bits .u64))) (6148914691236517205:Int)+
 ZG .u64 f (6148914691236517205:Int)))
 ((2:Int) ^ Min.min (R (2:Int)) (Go.IntKind.bits .u64)))
 (3689348814741910323:Int)+
 ZG .u64
 (Vb .u64
 (ZG .u64 (Vd f ((2:Int) ^ Min.min (R (1:Int)) (Go.IntKind.bits .u64))) (6148914691236517205:Int)+
 ZG .u64 f (6148914691236517205:Int)))
 (3689348814741910323:Int))))
 (1085102592571150095:Int))
 ((2:Int) ^ Min.min (R (8:Int)) (Go.IntKind.bits .u64))))
 ((2:Int) ^ Min.min (R (16:Int)) (Go.IntKind.bits .u64))))
 ((2:Int) ^ Min.min (R (32:Int)) (Go.IntKind.bits .u64)))))
 (127:Int))
def F64E:Zn:=Ys 254 f254 35 [] .leaf (.q H5) (.pd Y3) (u1 F64)
def F26:(El Wn)->Option (El Zcy):=fun k=>
 Va (F24 k) fun i=>
 Va
 (run
 (fun h=>
 bif U (h.2<(↑(Ve i):Int)) then
 Va (Tr.unc k) fun _=>
 Va (Tr.unc k) fun A=>
 Va (idx A.2.2.2.2.1 h.2) fun B=>
 bif U (B<(0:Int)) then J (.inl (h.1,Vb .i64 (h.2+(1:Int))))
 else
 Va (sliceB (Ve i) (Ve i) (J h.2) Ub) fun m=>
 Va
 (run
 (fun l=>
 bif U (l.2.2<(↑(Ve (Vi (m.2 - m.1) (Vj m.1 i))):Int)) then
 Va (idx (Vi (m.2 - m.1) (Vj m.1 i)) l.2.2) fun y=>
 J
 (.inl
 (K5 .u64 l.1 (Vb .u64 y.2.2.1),K5 .u64 l.2.1 (Vb .u64 y.2.2.2.1),
 Vb .i64 (l.2.2+(1:Int))))
 else J (.inr (l.1,l.2.1)))
 ((0:Int),(0:Int),(0:Int)))
 fun s=>
 Va (Tr.unc k) fun _=>
 Va (Tr.unc k) fun n=>
 Va n.1 fun _=>
 Va n.1 fun o=>
 Va
 (run
 (fun f=>
 bif U (f.2<(↑(Ve o.1):Int)) then
 Va (idx o.1 f.2) fun j=>
 Va
 (bif U (Vb .i64 ((↑(Ve i):Int) - h.2)<j.2.2.1) then
 Va (F64 s.1) fun t=>
 bif U (t<=j.2.2.2.1) then
 J (U (Tr.qandNot .u64 s.2 (Vb .u64 j.2.2.2.2.2.1)=(0:Int)))
 else J Ud
 else J Ud)
 fun u=>
 bif u then
 Va (idx i h.2) fun p=>
 Va (Tr.unc k) fun _=>
 Va (Tr.unc k) fun v=>
 Va (idx v.2.2.2.2.1 h.2) fun q=>
 Va (F25 k j i h.2) fun r=>
 Va
 (Zz
 (decide
 (Ve f.1+
 Ve
 [(f.2,p.1,Vb .i64 ((↑(Ve i):Int) - h.2),Vb .i64 (q+r),
 s.1,())]<=
 ZD)))
 fun _=>
 J
 (.inl
 (f.1++
 [(f.2,p.1,Vb .i64 ((↑(Ve i):Int) - h.2),Vb .i64 (q+r),
 s.1,())],
 Vb .i64 (f.2+(1:Int))))
 else J (.inl (f.1,Vb .i64 (f.2+(1:Int))))
 else J (.inr f.1))
 (h.1,(0:Int)))
 fun w=>J (.inl (w,Vb .i64 (h.2+(1:Int))))
 else J (.inr h.1))
 ([],(0:Int)))
 fun x=>J x
def F26E:Zn:=Ys 249 f249 110 [F24E,F25E,F64E] (hS (hS (hS (.seq (hS (.lp (en [(3,.own HE Ud),pd 16 Y3] [0,4,15]) [(.exit 0,en [(3,.own HE Ud)] [])] (hS (hS (.seq (hS (hS (hS (.seq (hS (.lp (en [pd 6 H5,pd 7 H5,pd 30 Y3] [0,3,4,5,15,16,28,29]) [(.exit 2,en [pd 6 H5,pd 7 H5] [0,3,4,5,15,16])] .leaf)) (hS (.lp (en [(3,.own HE Ud),pd 53 Y3] [0,4,5,6,7,15,16,51,52]) [(.exit 4,en [(3,.own HE Ud)] [0,4,15,16])] (hS (hS (.seq (hS (.seq (.reg [(79,Y4)]) .leaf)) .leaf))))))))) .leaf))))) .leaf)))) (.q Wn) (.pd Zcy) (u1 F26)
def F28:(El HE)->(El HE)->Option (El Y4):=fun f h=>
 Va
 (bif U (f.1=h.1) then
 bif U (h.2.1<=f.2.1) then
 bif U (f.2.2.1<=h.2.2.1) then
 bif U (f.2.2.2.1<=h.2.2.2.1) then J (U (Tr.qandNot .u64 f.2.2.2.2.1 h.2.2.2.2.1=(0:Int)))
 else J Ud
 else J Ud
 else J Ud
 else J Ud)
 fun i=>J i
def F28E:Zn:=Ys 250 f250 39 [] (hS (.seq (.reg [(4,Y4)]) .leaf)) (.p HE (.q HE)) (.pd Y4) (u2 F28)
def F20:(El Wn)->(El Wn)->Option (El Y4):=fun h i=>
 Va
 (bif Vg h then J Uc
 else
 bif Vg i then J Uc
 else
 Va (Tr.unc h) fun _=>
 Va (Tr.unc h) fun t=>
 Va (Tr.unc i) fun _=>
 Va (Tr.unc i) fun u=>
 Va (F29 t.1 u.1) fun v=>bif !v then J Uc else Va (F27 h i) fun w=>J !w)
 fun x=>
 bif x then J Ud
 else
 Va (F26 h) fun r=>
 Va (F26 i) fun s=>
 Va
 (run
 (fun j=>
 bif U (j<(↑(Ve s):Int)) then
 Va (idx s j) fun k=>
 Va
 (run
 (fun f=>
 bif U (f.2<(↑(Ve r):Int)) then
 Va (idx r f.2) fun l=>
 Va (bif f.1 then J Uc else Va (F28 l k) fun m=>J m) fun n=>
 J (.inl (n,Vb .i64 (f.2+(1:Int))))
 else J (.inr f.1))
 (Ud,(0:Int)))
 fun o=>bif !o then J (.inr (.inr Ud)) else J (.inl (Vb .i64 (j+(1:Int))))
 else J (.inr (.inl ())))
 (0:Int))
 fun p=>Vl (fun _=>J Uc) (fun q=>J q) p
def F20E:Zn:=Ys 228 f228 60 [F29E,F27E,F26E,F28E] (hS (.seq (.seq (.reg [(34,Y4)]) .leaf) (hS (.seq (hS (.lp (en [pd 40 Y3] [5,38,39]) [(.exit 0,e0),(.ret,en [pd 4 Y4] [])] (hS (hS (.seq (hS (hS (.seq (hS (.lp (en [pd 8 Y4,pd 46 Y3] [5,7,38,39,40,44,45]) [(.exit 2,en [pd 8 Y4] [5,38,39,40])] (hS (hS (.seq (hS (.reg [(8,Y4)])) .leaf))))) .leaf))) .leaf))))) .leaf)))) (.p Wn (.q Wn)) (.pd Y4) (u2 F20)
def F85:(El Y3)->(El Y3)->(El Y3)->Option (El Y4):=fun h i f=>
 bif U (h<=i) then
 Va
 (bif U (f<(0:Int)) then J Uc
 else J (U (Vb .u64 f<Vb .u64 (Vb .u64 i - Vb .u64 h))))
 fun j=>J j
 else
 Va
 (bif U (f<(0:Int)) then
 J
 (decide
 (Vb .u64 (Vb .u64 h - Vb .u64 i)<Vb .u64 ((0:Int) - Vb .u64 f)))
 else J Ud)
 fun k=>J k
def F85E:Zn:=Ys 230 f230 35 [] (hS (.seq (hS (.cnd Ub (.seq (.reg [(6,Y4)]) .leaf) .leaf)) (.seq (.reg [(6,Y4)]) .leaf))) (.p Y3 (.p Y3 (.q Y3))) (.pd Y4) (u3 F85)
def F1(f:Int):Option Int:=Tr.lenF f
def F1S:Tr.Spec:= {args:=(.cons (.pd KQ) .nil),res:=(.cons (.pd Y3) .nil),fns:=[],α:=El Y3,f:=fun x=>F1 x.1,unp:=fun z=>(((),()),(z,()))}
theorem F1_ok:ZS Tryz.prog 233 F1S:=Tr.len_ok
def F1E:Zn:=⟨233,F1S,F1_ok⟩
def F4:(El KQ)->(El KQ)->Option (El Y4):=fun f h=>J (U (Tr.qandNot .u64 f h=(0:Int)))
def F4E:Zn:=Ys 234 f234 9 [] .leaf (.p KQ (.q KQ)) (.pd Y4) (u2 F4)
def F2:(El KQ)->(El KQ)->Option (El KQ):=fun f h=>J (K5 .u64 f h)
def F2E:Zn:=Ys 232 f232 8 [] .leaf (.p KQ (.q KQ)) (.pd KQ) (u2 F2)
def F84:(El WS)->(El KQ)->(El KQ)->Option (El KQ×El KQ):=fun f h i=>
 Va (F2 h (Vb .u64 f.2.2.1)) fun j=>
 Va (F2 i (Vb .u64 f.2.2.2.1)) fun k=>J (j,k)
def F84E:Zn:=Zc0 231 f231 14 [F2E] .leaf (.p WS (.cons (.var KQ (.pd KQ)) (.cons (.var KQ (.pd KQ)) .nil))) .nil (u3 F84) (fun z=>(((),z.1,z.2,()),())) (fun y=>(y.1.2.1,y.1.2.2.1))
def F83:(El JX)->(El Wl)->Option (El Y4):=fun i f=>
 Va
 (bif U ((↑(Ve f):Int)=(0:Int)) then J Uc
 else
 bif U (i.2.2.1<(↑(Ve f):Int)) then J Uc
 else
 Va (idx f (0:Int)) fun m=>
 Va (idx f (Vb .i64 ((↑(Ve f):Int) - (1:Int)))) fun n=>
 Va (F85 m.1 n.1 i.2.2.2.2.1) fun o=>J o)
 fun p=>
 bif p then J Ud
 else
 Va
 (run
 (fun h=>
 bif U (h.2.2<(↑(Ve f):Int)) then
 Va (idx f h.2.2) fun q=>
 Va (F84 q h.1 h.2.1) fun k=>J (.inl (k.1,k.2,Vb .i64 (h.2.2+(1:Int))))
 else J (.inr (h.1,h.2.1)))
 ((0:Int),(0:Int),(0:Int)))
 fun l=>
 Va
 (Va (F1 l.1) fun r=>
 bif U (r<=i.2.2.2.1) then Va (F4 l.2 (Vb .u64 i.2.2.2.2.2.1)) fun s=>J s
 else J Ud)
 fun j=>J j
def F83E:Zn:=Ys 200 f200 59 [F85E,F84E,F1E,F4E] (hS (hS (.seq (.seq (.reg [(35,Y4)]) .leaf) (hS (hS (.seq (hS (.lp ⟨[(6,.var KQ (.pd KQ)),(7,.var KQ (.pd KQ)),pd 39 Y3],[(8,231,[6,7])],[2,37,38],[],[],[]⟩ [(.exit 0,en [(6,.var KQ (.pd KQ)),(7,.var KQ (.pd KQ))] [2])] .leaf)) (.seq (.reg [(4,Y4)]) .leaf))))))) (.p JX (.q Wl)) (.pd Y4) (u2 F83)
def F22:(El Wn)->(El WS)->Option (El Wn×El ZI):=fun h t=>
 bif Vg h then J ([],(40:Int))
 else
 Va (Tr.unc h) fun _=>
 Va (Tr.unc h) fun E=>
 bif U ((8:Int)<=E.2.2.2.1) then J ([],(33:Int))
 else
 Va (Tr.unc h) fun _=>
 Va (Tr.unc h) fun D=>
 Va (Tr.unc h) fun _=>
 Va (Tr.unc h) fun s=>
 Va (Tr.unc h) fun _=>
 Va (Tr.unc h) fun k=>
 Va (F23 ((D.1,t,Vb .i64 (s.2.2.2.1+(1:Int)),k.2.2.2.2.1,())::h)) fun r=>
 Va
 (run
 (fun i=>
 bif U (i.2<(↑(Ve r):Int)) then
 Va (Tr.unc h) fun _=>
 Va (Tr.unc h) fun l=>
 Va l.1 fun _=>
 Va l.1 fun m=>
 Va
 (run
 (fun f=>
 bif U (f.2<(↑(Ve m.1):Int)) then
 Va (idx m.1 f.2) fun n=>
 Va
 (Va (Zs i.2 (9:Nat)) fun u=>
 Va k.2.2.2.2.1[u]? fun v=>
 bif U (v<(0:Int)) then J Uc
 else
 Va (sliceB (Ve r) (Ve r) (J i.2) Ub) fun j=>
 Va (F83 n (Vi (j.2 - j.1) (Vj j.1 r))) fun w=>J !w)
 fun x=>
 bif x then J (.inl (f.1,Vb .i64 (f.2+(1:Int))))
 else
 Va (Zs i.2 (9:Nat)) fun y=>
 Va k.2.2.2.2.1[y]? fun o=>
 Va
 (F25 ((D.1,t,Vb .i64 (s.2.2.2.1+(1:Int)),k.2.2.2.2.1,())::h)
 n r i.2)
 fun p=>
 Va
 (bif U (f.1<(0:Int)) then J Uc
 else J (U (Vb .i64 (o+p)<f.1)))
 fun A=>
 bif A then J (.inl (Vb .i64 (o+p),Vb .i64 (f.2+(1:Int))))
 else J (.inl (f.1,Vb .i64 (f.2+(1:Int))))
 else J (.inr f.1))
 (i.1,(0:Int)))
 fun B=>J (.inl (B,Vb .i64 (i.2+(1:Int))))
 else J (.inr i.1))
 ((-1:Int),(0:Int)))
 fun C=>
 Va (Zs (Vb .i64 (s.2.2.2.1+(1:Int))) (9:Nat)) fun q=>
 Va k.2.2.2.2.1[q]? fun _=>
 J ((D.1,t,Vb .i64 (s.2.2.2.1+(1:Int)),Vk k.2.2.2.2.1 q C,())::h,(0:Int))
def F22E:Zn:=Zc0 226 f226 103 [F83E,F23E,F25E] (hS (hS (hS (hS (hS (hS (.seq (hS (.lp (en [pd 8 Y3,pd 41 Y3] [0,6,7,40]) [(.exit 0,en [pd 8 Y3] [6])] (hS (hS (.seq (hS (hS (.lp (en [pd 8 Y3,pd 52 Y3] [0,6,7,9,40,41,50,51]) [(.exit 2,en [pd 8 Y3] [0,6,7,40,41])] (hS (hS (.seq (hS (.seq (.seq (.reg [(70,Y4)]) .leaf) (hS (.seq (.reg [(89,Y4)]) .leaf)))) .leaf)))))) .leaf))))) .leaf))))))) (.p Wn (.q WS)) (.p Wn (.q ZI)) (u2 F22) (fun z=>(((),(),()),(z.1,z.2,()))) (fun y=>(y.2.1,y.2.2.1)) (rws:=[209])
def F21:(El Wn)->Option (El Y3×El Y4):=fun f=>
 Va
 (bif Vg f then J Uc
 else
 Va (Tr.unc f) fun _=>
 Va (Tr.unc f) fun p=>
 Va (Tr.unc f) fun _=>Va (Tr.unc f) fun q=>Va (idx q.2.2.2.2.1 p.2.2.2.1) fun r=>J (U (r<(0:Int))))
 fun s=>
 bif s then J ((0:Int),Ud)
 else
 Va (Tr.unc f) fun _=>
 Va (Tr.unc f) fun t=>
 Va (Tr.unc f) fun _=>
 Va (Tr.unc f) fun u=>
 Va (idx u.2.2.2.2.1 t.2.2.2.1) fun h=>
 Va
 (Va (Tr.unc f) fun _=>
 Va (Tr.unc f) fun i=>
 Va i.1 fun _=>
 Va i.1 fun l=>
 bif U (l.2.2.2.1=(0:Int)) then J Uc
 else
 Va (Tr.unc f) fun _=>
 Va (Tr.unc f) fun j=>Va j.1 fun _=>Va j.1 fun m=>J (U (h<m.2.2.2.1)))
 fun n=>
 bif n then J (h,Uc)
 else Va (Tr.unc f) fun _=>Va (Tr.unc f) fun k=>Va k.1 fun _=>Va k.1 fun o=>J (o.2.2.2.1,Uc)
def F21E:Zn:=Zc0 227 f227 55 [] (hS (.seq (.seq (.reg [(18,Y4)]) .leaf) (.seq (hS (.seq (.reg [(46,Y4)]) .leaf)) .leaf))) (.q Wn) (.p Y3 (.q Y4)) (u1 F21) (fun z=>(((),()),(z.1,z.2,()))) (fun y=>(y.2.1,y.2.2.1))
def F51:(El Y9)->Option (El Y4):=fun h=>
 Va
 (run
 (fun s0=>
 bif U (s0<(↑(Ve h):Int)) then
 Va (idx h s0) fun f=>
 Va (bif U ((97:Int)<=(↑(Vf f):Int)) then J (U ((↑(Vf f):Int)<=(122:Int))) else J Ud)
 fun k=>
 Va
 (bif k then J k
 else
 Va (bif U ((65:Int)<=(↑(Vf f):Int)) then J (U ((↑(Vf f):Int)<=(90:Int))) else J Ud)
 fun l=>
 Va
 (bif l then J l
 else
 Va
 (bif U ((48:Int)<=(↑(Vf f):Int)) then J (U ((↑(Vf f):Int)<=(57:Int))) else J Ud)
 fun m=>J m)
 fun n=>J n)
 fun o=>
 bif o then J (.inl (Vb .i64 (s0+(1:Int))))
 else
 Va
 (bif U ((↑(Vf f):Int)=(45:Int)) then J (U ((↑(Vf f):Int)=(45:Int)))
 else
 Va
 (bif U ((↑(Vf f):Int)=(95:Int)) then J (U ((↑(Vf f):Int)=(95:Int)))
 else J (U ((↑(Vf f):Int)=(46:Int))))
 fun p=>J p)
 fun q=>bif q then J (.inl (Vb .i64 (s0+(1:Int)))) else J (.inr (.inr Ud))
 else J (.inr (.inl ())))
 (0:Int))
 fun r=>
 Vl
 (fun _=>
 Va (bif U ((0:Int)<(↑(Ve h):Int)) then J (U ((↑(Ve h):Int)<=(32:Int))) else J Ud) fun i=>
 J i)
 (fun j=>J j) r
def F51E:Zn:=Ys 175 f175 48 [] (hS (.seq (hS (.lp (en [pd 3 Y3] [0]) [(.exit 0,en [] [0]),(.ret,en [pd 2 Y4] [])] (hS (.seq (hS (.seq (.seq (.reg [(14,Y4)]) (.cnd (J ((en [] [0,3,4]),[(.normal,en [pd 14 Y4] [0,3,4])])) .leaf (.seq (.reg [(14,Y4)]) (.cnd (J ((en [] [0,3,4]),[(.normal,en [pd 14 Y4] [0,3,4])])) .leaf (.reg [(14,Y4)]))))) (.cnd Ub .leaf (.seq (hS (.cnd (J ((en [] [0,3]),[(.normal,en [pd 33 Y4] [0,3])])) .leaf (hS (.cnd (J ((en [] [0,3]),[(.normal,en [pd 33 Y4] [0,3])])) .leaf .leaf)))) .leaf)))) .leaf)))) (.seq (.reg [(2,Y4)]) .leaf))) (.q Y9) (.pd Y4) (u1 F51)
def F86:(El Y3)->(El Y3)->(El Y3)->Option (El Y4):=fun f h i=>Va (bif U (h<=f) then J (U (f<=i)) else J Ud) fun j=>J j
def F86E:Zn:=Ys 180 f180 15 [] (hS (.seq (.reg [(6,Y4)]) .leaf)) (.p Y3 (.p Y3 (.q Y3))) (.pd Y4) (u3 F86)
def F82:(El KL)->Option (El Y3×El ZI):=fun i=>
 Va
 (Va (F86 i.2.1 (0:Int) (1000000:Int)) fun o=>
 bif !o then J Uc
 else
 Va (F86 i.2.2.1 (0:Int) (86400:Int)) fun p=>
 bif !p then J Uc else Va (F86 i.2.2.2.1 (0:Int) (1000000:Int)) fun q=>J !q)
 fun r=>
 bif r then J ((-1:Int),(2:Int))
 else
 bif U ((16:Int)<(↑(Ve i.1):Int)) then J ((0:Int),(5:Int))
 else
 Va
 (run
 (fun f=>
 bif U (f.2<(↑(Ve i.1):Int)) then
 Va (idx i.1 f.2) fun h=>
 Va (F51 h.1) fun s=>
 bif !s then J (.inr (.inr (f.2,(12:Int))))
 else
 bif Option.getD (ZT (Zm Y9) h.1 f.1) (Ud) then J (.inr (.inr (f.2,(6:Int))))
 else
 Va
 (Va (F86 h.2.1 (0:Int) (1000000:Int)) fun t=>
 bif !t then J Uc
 else
 Va (F86 h.2.2.1 (1:Int) (8:Int)) fun u=>
 bif !u then J Uc
 else
 Va (F86 h.2.2.2.1 (1:Int) (16:Int)) fun v=>
 bif !v then J Uc
 else
 Va (F86 h.2.2.2.2.1 (0:Int) (86400:Int)) fun k=>
 bif !k then J Uc else Va (F86 h.2.2.2.2.2.1 (1:Int) (255:Int)) fun l=>J !l)
 fun m=>
 bif m then J (.inr (.inr (f.2,(2:Int))))
 else J (.inl (Kn (Zm Y9) h.1 Uc f.1,Vb .i64 (f.2+(1:Int))))
 else J (.inr (.inl ())))
 ([],(0:Int)))
 fun n=>Vl (fun _=>J ((0:Int),(0:Int))) (fun j=>J (j.1,j.2)) n
def F82E:Zn:=Zc0 113 f113 79 [F51E,F86E] (hS (.seq (.seq (.reg [(22,Y4)]) .leaf) (hS (hS (.seq (hS (.lp (en [(4,.map Y9 Y4),pd 31 Y3] [29,30]) [(.exit 0,e0),(.ret,en [pd 2 Y3,pd 3 ZI] [])] (hS (hS (.seq (hS (hS (hS (.seq (.seq (.reg [(73,Y4)]) .leaf) .leaf)))) .leaf))))) .leaf))))) (.q KL) (.p Y3 (.q ZI)) (u1 F82) (fun z=>(((),()),(z.1,z.2,()))) (fun y=>(y.2.1,y.2.2.1))
def F19:(El KL)->Option (El Wn×El ZI):=fun f=>
 Va (F82 f) fun h=>
 bif !U (h.2=(0:Int)) then J ([],(20:Int))
 else
 Va (Zz (U (Ve ([]:List Unit)+Ve f.1<=ZD))) fun _=>
 J ((J ([]++f.1,f.2),((0:Int),(0:Int),(0:Int),(0:Int),()),(0:Int),Tr.zeroEl DJ,())::Tr.zeroEl Wn,(0:Int))
def F19S:Tr.Spec:= {args:=(.cons (.pd KL) .nil),res:=(.cons (.pd Wn) (.cons (.pd ZI) .nil)),fns:=[],α:=El Wn×El ZI,f:=fun x=>F19 x.1,unp:=fun z=>(((),()),(z.1,z.2,()))}
theorem F19_ok:ZS Tryz.prog 78 F19S:=WZ (rws:=[209]) (zxs:=[27]) (nt:=21) (m:=[(113,[F82E.S])]) (fn:=f78) (hint:=.leaf) (pack:=fun y=>(y.2.1,y.2.2.1)) K9 tab_ok ⟨⟨F82E.ok,trivial⟩,trivial⟩ fun x z h=>.trans (by kernel_rfl) h
end
end Q

