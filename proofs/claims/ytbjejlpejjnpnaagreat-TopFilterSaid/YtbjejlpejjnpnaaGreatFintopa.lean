/- The functions of the program as functions of Lean, and that the program computes them; printed by a program of mine. Conditions: none. -/
import Derived.KernelRfl
import Derived.Test.YtbjejlpejjnpnaaGreatProg
import Derived.Test.YtbjejlpejjnpnaaGreatETsC
import Derived.Test.YtbjejlpejjnpnaaGreatETsF
import Derived.Test.YtbjejlpejjnpnaaGreatLaytop
import Derived.Test.YtbjejlpejjnpnaaGreatUntop3
import Derived.Test.YtbjejlpejjnpnaaGreatSamtop
import Derived.Test.YtbjejlpejjnpnaaGreatUsetop
import Derived.Test.YtbjejlpejjnpnaaGreatLentop
open Tr Go Go.Proofs
open Int renaming toNat ->Vi,tdiv ->Vn
open Go.IntKind renaming wrap ->Vc
open List renaming length ->Vb,set ->Vg,replicate ->Vh,take ->Vj,drop ->Vl,isEmpty ->Vm
open Option renaming bind ->Va,getD ->Vf,isSome ->Vk
open Sum renaming elim ->Ve
open UInt8 renaming toNat ->Vd
namespace Q
noncomputable section
abbrev hS(h:WK):WK:=.seq .leaf h
abbrev Y3:Ty:=.int .i64
abbrev Y4:Ty:=.bool
abbrev Y9:Ty:=.str
abbrev Zfe:Ty:=.prod Y9 (.prod Y3 (.prod Y4 (.prod Y3 .unit)))
abbrev Yk:Ty:=.sl Zfe
abbrev Zff:Ty:=.prod Y9 (.prod Y3 (.prod Y4 .unit))
abbrev Yl:Ty:=.sl Zff
abbrev Gy:Ty:=.prod Y3 (.prod Y3 (.prod Y3 (.prod Y4 (.prod Y4 .unit))))
abbrev XW:Ty:=.sl Gy
abbrev Hv:Ty:=.prod Y3 (.prod Y3 (.prod Y3 (.prod Y9 (.prod Y3 (.prod Y4 (.prod Y4 (.prod XW .unit)))))))
abbrev Y24:Ty:=.sl Hv
abbrev GB:Ty:=.prod Y3 (.prod Y3 (.prod Y3 (.prod Y3 (.prod Y4 .unit))))
abbrev Y25:Ty:=.sl GB
abbrev Wd:Ty:=.prod Y3 (.prod Y3 (.prod Y3 (.prod Y4 .unit)))
abbrev WD:Ty:=.sl Wd
abbrev Ym:Ty:=.prod Y9 (.prod Y3 (.prod Y3 (.prod Y3 (.prod Y3 (.prod Y3 .unit)))))
abbrev GZ:Ty:=.sl Ym
abbrev KY:Ty:=.prod GZ (.prod Y3 (.prod Y3 (.prod Y3 .unit)))
abbrev ZR:Ty:=.prod Yk (.prod Yl (.prod Y24 (.prod Y25 (.prod WD (.prod KY .unit)))))
abbrev Kf:Ty:=.prod Y3 (.prod Y3 (.prod Y3 (.prod Y4 (.prod Y3 (.prod Y3 (.prod Y4 (.prod Y4 (.prod Y3 (.prod Y4 .unit)))))))))
abbrev ZA:Ty:=.int .i64
abbrev Jp:Ty:=.prod Y4 (.prod Y3 (.prod Y3 (.prod Y3 (.prod Y3 (.prod Y3 (.prod Y3 (.prod Y3 (.prod Y4 .unit))))))))
abbrev DK:Ty:=.sl Jp
abbrev JC:Ty:=.prod DK .unit
abbrev HZ:Ty:=.prod Y3 (.prod Y3 (.prod Y3 (.prod Y3 (.prod Y3 .unit))))
abbrev Hu:Ty:=.prod Y3 (.prod Y3 (.prod Y3 (.prod Y3 .unit)))
abbrev G1:Ty:=.sl Hu
abbrev K1:Ty:=.prod JC (.prod HZ (.prod G1 .unit))
abbrev J7:Ty:=.sl K1
abbrev Jo:Ty:=.arr 4 Y3
abbrev G0:Ty:=.sl Jo
abbrev Y49:Ty:=.prod Y3 (.prod Y3 (.prod ZA (.prod Y3 .unit)))
abbrev KP:Ty:=.arr 4 Y3
abbrev Ja:Ty:=.prod Y3 (.prod Y3 (.prod Y3 (.prod Y3 .unit)))
abbrev WM:Ty:=.sl Ja
abbrev YM:Ty:=.sl Y3
abbrev XF:Ty:=.pt KY
abbrev ZcZ:Ty:=.arr 9 Y3
abbrev Wy:Ty:=.lk XF (.prod Ja (.prod Y3 (.prod ZcZ .unit)))
abbrev Wh:Ty:=.prod Y3 (.prod Y3 (.prod Y3 (.prod Y3 (.prod Ja .unit))))
abbrev KU:Ty:=.prod Wh (.prod Y3 (.prod Y3 (.prod Y3 (.prod Wy (.prod DK .unit)))))
abbrev Zih:Ty:=.sl KU
abbrev Zic:Ty:=.ref
abbrev Zid:Ty:=.ref
abbrev Zfg:Ty:=.prod ZR (.prod Kf (.prod Zic (.prod Zid (.prod J7 .unit))))
abbrev Zie:Ty:=.ref
abbrev Zif:Ty:=.prod Y4 (.prod Y3 (.prod G1 .unit))
abbrev Znq:Ty:=.sl Zif
abbrev KR:Ty:=.prod Y3 (.prod Y3 (.prod ZA .unit))
abbrev Znr:Ty:=.sl JC
abbrev Rz:Ty:=.sl YM
abbrev Zns:Ty:=.prod XF (.prod Wy (.prod Ja (.prod Y3 (.prod ZcZ .unit))))
abbrev Zaq:Ty:=.prod KU (.prod Y3 .unit)
abbrev Zig:Ty:=.sl Zaq
abbrev Zc0:Ty:=.prod Zie (.prod Zig (.prod Y3 .unit))
abbrev RA:Ty:=.sl KP
abbrev Wi:Ty:=.prod ZR (.prod Kf (.prod DK (.prod Y3 .unit)))
abbrev DH:Ty:=.int .u64
abbrev KV:Ty:=.int .u64
abbrev Zc1:Ty:=.prod Y4 (.prod Y3 (.prod Y3 (.prod Hu .unit)))
abbrev Jn:Ty:=.arr 9 Zc1
abbrev Znt:Ty:=.ref
abbrev Zfh:Ty:=.sl KR
abbrev Gz:Ty:=.prod Y9 (.prod Y3 (.prod Y3 .unit))
abbrev Znu:Ty:=.ref
abbrev Znv:Ty:=.ref
abbrev Znw:Ty:=.ref
abbrev Znx:Ty:=.ref
abbrev Zny:Ty:=.ref
abbrev XV:Ty:=.prod Y3 (.prod Y3 (.prod Y4 .unit))
abbrev Znz:Ty:=.ref
abbrev GA:Ty:=.prod Y3 (.prod Y3 (.prod Y3 (.prod Y3 (.prod DH .unit))))
abbrev Zfi:Ty:=.sl GA
abbrev ZnA:Ty:=.ref
abbrev YN:Ty:=.prod Y3 (.prod Y3 (.prod Y3 .unit))
abbrev DJ:Ty:=.sl YN
abbrev ZnB:Ty:=.ref
abbrev XG:Ty:=.prod Y3 (.prod Y3 (.prod Y3 .unit))
abbrev Zbz:Ty:=.sl XG
abbrev Zii:Ty:=.ref
abbrev ZbA:Ty:=.prod XG (.prod Y3 .unit)
abbrev Zij:Ty:=.sl ZbA
abbrev Zfj:Ty:=.prod Zii (.prod Zij (.prod Y3 .unit))
def tyTab:List (Nat×Ty):=[(3,Y3),(4,Y4),(9,Y9),(101,Zfe),(22,Yk),(103,Zff),(23,Yl),(105,Gy),(71,XW),(73,Hv),(24,Y24),(97,GB),(25,Y25),(77,Wd),(26,WD),(94,Ym),(27,GZ),(29,KY),(31,ZR),(33,Kf),(36,ZA),(79,Jp),(45,DK),(47,JC),(55,HZ),(159,Hu),(56,G1),(62,K1),(39,J7),(59,Jo),(43,G0),(49,Y49),(82,KP),(134,Ja),(86,WM),(118,YM),(180,XF),(181,ZcZ),(124,Wy),(136,Wh),(138,KU),(239,Zih),(128,Zic),(129,Zid),(131,Zfg),(139,Zie),(155,Zif),(153,Znq),(166,KR),(172,Znr),(173,Rz),(183,Zns),(267,Zaq),(184,Zig),(186,Zc0),(191,RA),(194,Wi),(196,DH),(197,KV),(204,Zc1),(205,Jn),(212,Znt),(215,Zfh),(219,Gz),(216,Znu),(220,Znv),(221,Znw),(222,Znx),(225,Zny),(283,XV),(281,Znz),(297,GA),(294,Zfi),(302,ZnA),(305,YN),(303,DJ),(310,ZnB),(320,XG),(313,Zbz),(323,Zii),(333,ZbA),(329,Zij),(331,Zfj)]
def mapTab:List (Nat×Ty×Ty):=[(128,Wh,Zih),(212,Y9,Y4),(216,Gz,Y4),(220,Y3,Y3),(221,Y3,Y4),(222,Jo,Y4),(225,Wd,Y4),(281,XV,Y4),(302,XV,Y3),(310,Y3,DJ)]
def pkTab:List (Nat×Nat):=[(124,1),(129,1),(139,2),(321,1),(323,2)]
def bdTab:List (Nat×Nat):=[]
theorem X2:Tryz.prog.follows .mixedOrders=true:=by kernel_rfl
theorem tab_ok:ZcI Tryz.prog tyTab mapTab pkTab bdTab=true:=by kernel_rfl
abbrev pd(n:Nat)(t:Ty):Nat×Zx:=(n,.pd t)
abbrev en(a:List (Nat×Zx))(c:List Nat):WV:=⟨a,[],c,[],[],[]⟩
abbrev e0:WV:=⟨[],[],[],[],[],[]⟩
variable {a b c d e g z:Type}
abbrev u1(f:a->z)(x:a×Unit):z:=f x.1
abbrev u2(f:a->b->z)(x:a×b×Unit):z:=f x.1 x.2.1
abbrev u3(f:a->b->c->z)(x:a×b×c×Unit):z:=f x.1 x.2.1 x.2.2.1
abbrev u4(f:a->b->c->d->z)(x:a×b×c×d×Unit):z:=f x.1 x.2.1 x.2.2.1 x.2.2.2.1
abbrev u5(f:a->b->c->d->e->z)(x:a×b×c×d×e×Unit):z:=f x.1 x.2.1 x.2.2.1 x.2.2.2.1 x.2.2.2.2.1
abbrev u6(f:a->b->c->d->e->g->z)(x:a×b×c×d×e×g×Unit):z:=f x.1 x.2.1 x.2.2.1 x.2.2.2.1 x.2.2.2.2.1 x.2.2.2.2.2.1
structure Zl where
 i:Nat
 S:Tr.Spec
 ok:Z4 Tryz.prog i S
def ofE:List Zl->List (Nat×List Tr.Spec)
 |[]=>[]
 |e::l=>(e.i,e.S::(l.filter fun d=>Nat.beq d.i e.i).map Zl.S)::ofE l
theorem ZkT:∀l,Rs Tryz.prog (ofE l)
 |[]=>trivial
 |e::l=>⟨⟨e.ok,f e.i _ fun d j=>Nat.eq_of_beq_eq_true (List.mem_filter.1 j).2⟩,ZkT l⟩
where f (i:Nat):∀l:List Zl,(∀d∈l,d.i=i)->Rt Tryz.prog i (l.map Zl.S)
 |[],_=>trivial
 |e::l,h=>⟨h e (by simp) ▸e.ok,f i l fun d j=>h d (by simp [j])⟩
abbrev _root_.Tr.Pats.p(t:Ty)(l:Pats):Pats:=.cons (.pd t) l
abbrev _root_.Tr.Pats.q(t:Ty):Pats:=.cons (.pd t) .nil
def Ko(i:Nat)(fn:Func)(nt:Nat)(l:List Zl)(hint:WK)(args res:Pats){α:Type}(f:KK args->Option α)(unp:α->Wx args×KK res)(pack:Wx args×KK res->α)(rws zxs:List Nat:=[])(fns:List FuncId:=[])(pl:Bool:=true)(kp:List (Nat×Nat×Nat):=[])
    (n:∀x z,f x=some z->Dd (mkE tyTab mapTab pkTab rws zxs (ofE l) nt bdTab) (H6 fn) fn.results hint args res pack x kp=some z:=by intro x z h;exact .trans (by kernel_rfl) h)
    (t:Tryz.prog.funcs[i]? =some fn:=by kernel_rfl) (s:fn.body=some (H6 fn):=by kernel_rfl) (o:nt=fn.ntmps:=by kernel_rfl) (j:(fn.name== "runtime.NumGoroutine")=false:=by kernel_rfl)
    (r:args.wf=true:=by kernel_rfl) (m:Nat.ble args.len nt=true:=by kernel_rfl) (k:∀y,unp (pack y)=y:=by intro y;rfl) (q:(!pl|| (ofE l).all fun p=>p.2.all (·.pl))=true:=by kernel_rfl):Zl:=
 ⟨i, {args,res,fns,α,f,unp,pl,kp},Yt X2 tab_ok (ZkT l) n t s o j r m k q⟩
def ZK(i:Nat)(fn:Func)(nt:Nat)(l:List Zl)(hint:WK)(args:Pats)(r:Zx)(f:KK args->Option (WJ r))(rws zxs:List Nat:=[])(fns:List FuncId:=[])(pl:Bool:=true)(u:Wx args:=by repeat' constructor)
    (n:∀x z,f x=some z->Dd (mkE tyTab mapTab pkTab rws zxs (ofE l) nt bdTab) (H6 fn) fn.results hint args (Pats.cons r .nil) (fun y:Wx args×KK (Pats.cons r .nil)=>(y.2.1:WJ r)) x []=some z:=by intro x z h;exact .trans (by kernel_rfl) h)
    (v:Tryz.prog.funcs[i]? =some fn:=by kernel_rfl) (t:fn.body=some (H6 fn):=by kernel_rfl) (o:nt=fn.ntmps:=by kernel_rfl) (j:(fn.name== "runtime.NumGoroutine")=false:=by kernel_rfl)
    (s:args.wf=true:=by kernel_rfl) (m:Nat.ble args.len nt=true:=by kernel_rfl) (k:∀y:Wx args,u=y:=by intro y;rfl) (q:(!pl|| (ofE l).all fun p=>p.2.all (·.pl))=true:=by kernel_rfl):Zl:=
 Ko i fn nt l hint args (.cons r .nil) f (fun z=>(u,(z,()))) (fun y=>y.2.1) rws zxs fns pl [] n v t o j s m (fun y=>by rw[k y.1]) q
abbrev Zni:Zx:=.agg (.cons (.fn 69 .nil) (.cons (.own Zaq true) (.q Y3)))
abbrev Znh:Zx:=.agg (.cons (.fn 69 .nil) (.cons (.own Zaq false) (.q Y3)))
abbrev Zng:Zx:=.agg (.cons (.fn 266 .nil) (.cons (.own ZbA true) (.q Y3)))
abbrev DF:Zx:=.var Zc0 Zni
abbrev Znf:Zx:=.var Zc0 Znh
abbrev DE:Zx:=.var Zfj Zng
abbrev Pz9:Zx:=.agg (.cons (.fn 69 .nil) (.cons (.own Zaq false) (.cons (.pd Y3) .nil)))
abbrev Pz8:Zx:=.agg (.cons (.fn 266 .nil) (.cons (.own ZbA false) (.cons (.pd Y3) .nil)))
abbrev Pz7:Zx:=.var Zc0 Pz9
abbrev Ry:Zx:=.var Zfj Pz8
abbrev Pz5:Zx:=.agg (.cons (.pd Yk) (.cons (.pd Yl) (.cons (.own Hv false) (.cons (.own GB false) (.cons (.pd WD) (.cons (.pd KY) .nil))))))
abbrev Pz4:Zx:=.var ZR Pz5
abbrev Pz3:Zx:=.agg (.p ZR (.p Kf (.cons (.mrows Wh KU) (.cons Znf (.cons (.own K1 false) .nil)))))
abbrev Hs:Zx:=.var Zfg Pz3
abbrev Pz1:Zx:=.agg (.cons (.pd ZR) (.cons (.pd Kf) (.cons (.mrows Wh KU) (.cons Pz7 (.cons (.own K1 false) .nil)))))
abbrev Yf:Zx:=.var Zfg Pz1
abbrev XU:=Unit×List (El Zaq) ×El Y3×Unit
abbrev Yj:=Unit×List (El ZbA) ×El Y3×Unit
abbrev Jc:=El ZR×El Kf×List (El Wh×List (El KU)) ×XU×List (El K1) ×Unit
def F121:(El Y9)->Option (El Y4):=fun h=>
 Va (bif decide ((↑(Vb h):Int)<(1:Int)) then some true else some (decide ((32:Int)<(↑(Vb h):Int)))) fun j=>
 bif j then some false
 else
 Va
 (run
 (fun i=>
 bif decide (i<(↑(Vb h):Int)) then
 Va (idx h i) fun f=>
 Va
 (bif decide ((97:Int)<=(↑(Vd f):Int)) then
 bif decide ((↑(Vd f):Int)<=(122:Int)) then some true
 else
 bif decide ((65:Int)<=(↑(Vd f):Int)) then
 bif decide ((↑(Vd f):Int)<=(90:Int)) then some true
 else bif decide ((48:Int)<=(↑(Vd f):Int)) then some (decide ((↑(Vd f):Int)<=(57:Int))) else some false
 else bif decide ((48:Int)<=(↑(Vd f):Int)) then some (decide ((↑(Vd f):Int)<=(57:Int))) else some false
 else
 bif decide ((65:Int)<=(↑(Vd f):Int)) then
 bif decide ((↑(Vd f):Int)<=(90:Int)) then some true
 else bif decide ((48:Int)<=(↑(Vd f):Int)) then some (decide ((↑(Vd f):Int)<=(57:Int))) else some false
 else bif decide ((48:Int)<=(↑(Vd f):Int)) then some (decide ((↑(Vd f):Int)<=(57:Int))) else some false)
 fun k=>
 Va
 (bif !k then
 bif !decide ((↑(Vd f):Int)=(45:Int)) then
 bif !decide ((↑(Vd f):Int)=(95:Int)) then some !decide ((↑(Vd f):Int)=(46:Int)) else some false
 else some false
 else some false)
 fun l=>bif l then some (.inr (.inr false)) else some (.inl (Vc .i64 (i+(1:Int))))
 else some (.inr (.inl ())))
 (0:Int))
 fun m=>Ve (fun _=>some true) (fun n=>some n) m
def F121E:Zl:=ZK 180 Tryz.f180 59 [] (hS (.seq (.seq (.reg [(13,Y4)]) .leaf) (.seq (hS (.lp (en [pd 3 Y3] [0]) [(.exit 0,e0),(.ret,en [pd 2 Y4] [])] (hS (.seq (hS (.seq (.reg [(5,Y4)]) (.seq (.reg [(58,Y4)]) .leaf))) .leaf)))) .leaf))) (.q Y9) (.pd Y4) (u1 F121)
def F122:(El Y3)->(El Y3)->(El Y3)->Option (El Y4):=fun f h i=>Va (bif decide (h<=f) then some (decide (f<=i)) else some false) fun j=>some j
def F122E:Zl:=ZK 181 Tryz.f181 15 [] (hS (.seq (.reg [(6,Y4)]) .leaf)) (.p Y3 (.p Y3 (.q Y3))) (.pd Y4) (u3 F122)
def F128:(El Yk)->Option (El Y3×El ZA):=fun f=>
 bif decide ((64:Int)<(↑(Vb f):Int)) then some ((0:Int),(5:Int))
 else
 Va
 (run
 (fun s0=>
 bif decide (s0<(↑(Vb f):Int)) then
 Va (idx f s0) fun o=>
 Va (F121 o.1) fun p=>
 bif !p then some (.inr (.inr (s0,(12:Int))))
 else
 Va
 (run
 (fun j=>
 bif decide (j<s0) then
 Va (idx f j) fun q=>
 Va (idx f s0) fun r=>
 bif decide (q.1=r.1) then some (.inr (.inr (s0,(6:Int)))) else some (.inl (Vc .i64 (j+(1:Int))))
 else some (.inr (.inl ())))
 (0:Int))
 fun s=>
 Ve
 (fun _=>
 Va
 (Va (idx f s0) fun t=>
 Va (F122 t.2.1 (0:Int) (15:Int)) fun u=>
 bif !u then some true
 else Va (idx f s0) fun k=>Va (F122 k.2.2.2.1 (0:Int) (3600:Int)) fun l=>some !l)
 fun m=>bif m then some (.inr (.inr (s0,(2:Int)))) else some (.inl (Vc .i64 (s0+(1:Int)))))
 (fun h=>some (.inr (.inr (h.1,h.2)))) s
 else some (.inr (.inl ())))
 (0:Int))
 fun n=>Ve (fun _=>some ((0:Int),(0:Int))) (fun i=>some (i.1,i.2)) n
def F128E:Zl:=Ko 131 Tryz.f131 57 [F121E,F122E] (hS (hS (.seq (hS (.lp (en [pd 4 Y3] [0]) [(.exit 0,e0),(.ret,en [pd 2 Y3,pd 3 ZA] [])] (hS (.seq (hS (.seq (hS (.lp (en [pd 5 Y3] [0,4]) [(.exit 2,en [] [0,4]),(.ret,en [pd 2 Y3,pd 3 ZA] [])] .leaf)) (.seq (.reg [(55,Y4)]) .leaf))) .leaf)))) .leaf))) (.q Yk) (.p Y3 (.q ZA)) (u1 F128) (fun z=>(((),()),(z.1,z.2,()))) (fun y=>(y.2.1,y.2.2.1))
def F126:(El Yl)->Option (El Y3×El ZA):=fun f=>
 bif decide ((64:Int)<(↑(Vb f):Int)) then some ((0:Int),(5:Int))
 else
 Va
 (run
 (fun s0=>
 bif decide (s0<(↑(Vb f):Int)) then
 Va (idx f s0) fun l=>
 Va (F121 l.1) fun m=>
 bif !m then some (.inr (.inr (s0,(12:Int))))
 else
 Va
 (run
 (fun j=>
 bif decide (j<s0) then
 Va (idx f j) fun n=>
 Va (idx f s0) fun o=>
 bif decide (n.1=o.1) then some (.inr (.inr (s0,(6:Int)))) else some (.inl (Vc .i64 (j+(1:Int))))
 else some (.inr (.inl ())))
 (0:Int))
 fun p=>
 Ve
 (fun _=>
 Va (idx f s0) fun q=>
 Va (F122 q.2.1 (0:Int) (7:Int)) fun r=>
 bif !r then some (.inr (.inr (s0,(2:Int)))) else some (.inl (Vc .i64 (s0+(1:Int)))))
 (fun h=>some (.inr (.inr (h.1,h.2)))) p
 else some (.inr (.inl ())))
 (0:Int))
 fun k=>Ve (fun _=>some ((0:Int),(0:Int))) (fun i=>some (i.1,i.2)) k
def F126E:Zl:=Ko 132 Tryz.f132 48 [F121E,F122E] (hS (hS (.seq (hS (.lp (en [pd 4 Y3] [0]) [(.exit 0,e0),(.ret,en [pd 2 Y3,pd 3 ZA] [])] (hS (.seq (hS (.seq (hS (.lp (en [pd 5 Y3] [0,4]) [(.exit 2,en [] [0,4]),(.ret,en [pd 2 Y3,pd 3 ZA] [])] .leaf)) .leaf)) .leaf)))) .leaf))) (.q Yl) (.p Y3 (.q ZA)) (u1 F126) (fun z=>(((),()),(z.1,z.2,()))) (fun y=>(y.2.1,y.2.2.1))
def F114:(El XW)->(El Y3)->(El Y3)->(El Y3)->Option (El ZA):=fun i k l m=>
 Va (bif decide ((↑(Vb i):Int)<(2:Int)) then some true else some (decide ((32:Int)<(↑(Vb i):Int)))) fun n=>
 bif n then some (5:Int)
 else
 Va
 (run
 (fun h=>
 bif decide (h<(↑(Vb i):Int)) then
 Va (idx i h) fun f=>
 Va (bif decide (f.1<(0:Int)) then some true else some (decide (k<=f.1))) fun o=>
 bif o then some (.inr (.inr (9:Int)))
 else
 Va
 (bif decide ((0:Int)<h) then Va (idx i (Vc .i64 (h - (1:Int)))) fun p=>some (decide (p.1=f.1))
 else some false)
 fun q=>
 bif q then some (.inr (.inr (13:Int)))
 else
 Va
 (bif decide (f.2.1<l) then some true
 else
 bif decide (f.2.2.1<f.2.1) then some true
 else
 bif decide (m<f.2.2.1) then some true
 else
 bif decide ((0:Int)<h) then
 Va (idx i (Vc .i64 (h - (1:Int)))) fun r=>some (decide (f.2.1<r.2.2.1))
 else some false)
 fun s=>bif s then some (.inr (.inr (10:Int))) else some (.inl (Vc .i64 (h+(1:Int))))
 else some (.inr (.inl ())))
 (0:Int))
 fun t=>Ve (fun _=>some (0:Int)) (fun j=>some j) t
def F114E:Zl:=ZK 182 Tryz.f182 83 [] (hS (.seq (.seq (.reg [(18,Y4)]) .leaf) (.seq (hS (.lp (en [pd 9 Y3] [0,1,2,3]) [(.exit 0,e0),(.ret,en [pd 8 ZA] [])] (hS (.seq (hS (.seq (.seq (.reg [(37,Y4)]) .leaf) (.seq (.seq (.reg [(50,Y4)]) .leaf) (.seq (.reg [(82,Y4)]) .leaf)))) .leaf)))) .leaf))) (.p XW (.p Y3 (.p Y3 (.q Y3)))) (.pd ZA) (u4 F114)
def F127:(El ZR)->(El Y3)->Option (El ZA):=fun h l=>
 Va (idx h.2.2.1 l) fun f=>
 Va (F121 f.2.2.2.1) fun n=>
 bif !n then some (12:Int)
 else
 Va (bif decide (f.1<(-1:Int)) then some true else some (decide (f.2.2.1<(0:Int)))) fun o=>
 bif o then some (2:Int)
 else
 Va (F122 f.2.1 (0:Int) (36524:Int)) fun p=>
 bif !p then some (11:Int)
 else
 Va
 (bif decide (f.2.2.2.2.1<(0:Int)) then some true
 else some (decide ((↑(Vb h.2.1):Int)<=f.2.2.2.2.1)))
 fun q=>
 bif q then some (9:Int)
 else
 Va (F114 f.2.2.2.2.2.2.2.1 (↑(Vb h.1):Int) (0:Int) (3155932800:Int)) fun m=>
 bif !decide (m=(0:Int)) then some m
 else
 Va
 (run
 (fun i=>
 bif decide (i<l) then
 Va (idx h.2.2.1 i) fun j=>
 Va
 (bif decide (j.2.2.2.1=f.2.2.2.1) then
 bif decide (j.2.1=f.2.1) then some (decide (j.2.2.1=f.2.2.1)) else some false
 else some false)
 fun r=>bif r then some (.inr (.inr (6:Int))) else some (.inl (Vc .i64 (i+(1:Int))))
 else some (.inr (.inl ())))
 (0:Int))
 fun s=>Ve (fun _=>some (0:Int)) (fun k=>some k) s
def F127E:Zl:=ZK 133 Tryz.f133 79 [F121E,F122E,F114E] (hS (hS (hS (.seq (.seq (.reg [(25,Y4)]) .leaf) (hS (.seq (.seq (.reg [(40,Y4)]) .leaf) (hS (hS (.seq (hS (.lp (en [pd 7 Y3] [1,2,5]) [(.exit 0,e0),(.ret,en [pd 4 ZA] [])] (hS (.seq (hS (.seq (.reg [(78,Y4)]) .leaf)) .leaf)))) .leaf))))))))) (.p ZR (.q Y3)) (.pd ZA) (u2 F127)
def F123:(El ZR)->(El Y3)->(El Y3)->(El Y3)->Option (El Y4):=fun h i k l=>
 Va
 (run
 (fun s0=>
 bif decide (s0.2<=i) then
 Va
 (run
 (fun f=>
 bif decide (f.2<i) then
 Va
 (Va (idx h.2.2.2.1 f.2) fun m=>
 bif m.2.2.2.2.1 then Va (idx h.2.2.2.1 f.2) fun n=>some (decide (n.1=s0.1)) else some false)
 fun o=>
 bif o then Va (idx h.2.2.2.1 f.2) fun p=>some (.inl (p.2.2.1,Vc .i64 (f.2+(1:Int))))
 else some (.inl (f.1,Vc .i64 (f.2+(1:Int))))
 else some (.inr f.1))
 ((-1:Int),(0:Int)))
 fun j=>bif decide (j=l) then some (.inr (.inr true)) else some (.inl (j,Vc .i64 (s0.2+(1:Int))))
 else some (.inr (.inl ())))
 (k,(0:Int)))
 fun q=>Ve (fun _=>some false) (fun r=>some r) q
def F123E:Zl:=ZK 183 Tryz.f183 48 [] (hS (.seq (hS (.lp (en [pd 2 Y3,pd 9 Y3] [1,3,4]) [(.exit 0,e0),(.ret,en [pd 8 Y4] [])] (hS (.seq (hS (.seq (hS (.lp (en [pd 10 Y3,pd 11 Y3] [1,2,3,4,9]) [(.exit 2,en [pd 10 Y3] [1,3,4,9])] (hS (.seq (.seq (.reg [(37,Y4)]) .leaf) .leaf)))) .leaf)) .leaf)))) .leaf)) (.p ZR (.p Y3 (.p Y3 (.q Y3)))) (.pd Y4) (u4 F123)
def F124:(El ZR)->(El Y3)->Option (El ZA):=fun i m=>
 Va (idx i.2.2.2.1 m) fun f=>
 Va
 (Va (F122 f.1 (0:Int) (Vc .i64 ((↑(Vb i.2.2.1):Int) - (1:Int)))) fun A=>
 bif !A then some true
 else
 Va (F122 f.2.2.1 (0:Int) (Vc .i64 ((↑(Vb i.2.2.1):Int) - (1:Int)))) fun B=>
 bif !B then some true else some (decide (f.1=f.2.2.1)))
 fun C=>
 bif C then some (9:Int)
 else
 Va (idx i.2.2.1 f.1) fun v=>
 Va (idx i.2.2.1 f.2.2.1) fun y=>
 Va
 (Va (F122 f.2.1 (0:Int) (Vc .i64 ((↑(Vb v.2.2.2.2.2.2.2.1):Int) - (1:Int)))) fun D=>
 bif !D then some true
 else
 Va (F122 f.2.2.2.1 (0:Int) (Vc .i64 ((↑(Vb y.2.2.2.2.2.2.2.1):Int) - (1:Int)))) fun E=>
 some !E)
 fun F=>
 bif F then some (9:Int)
 else
 Va (idx v.2.2.2.2.2.2.2.1 f.2.1) fun G=>
 Va (idx y.2.2.2.2.2.2.2.1 f.2.2.2.1) fun n=>
 bif !decide (G.1=n.1) then some (13:Int)
 else
 Va
 (bif f.2.2.2.2.1 then
 bif !decide (f.2.1=Vc .i64 ((↑(Vb v.2.2.2.2.2.2.2.1):Int) - (1:Int))) then some true
 else some !decide (f.2.2.2.1=(0:Int))
 else some false)
 fun o=>
 bif o then some (19:Int)
 else
 Va
 (run
 (fun j=>
 bif decide (j<m) then
 Va (idx i.2.2.2.1 j) fun l=>
 Va
 (bif f.2.2.2.2.1 then
 bif l.2.2.2.2.1 then
 bif decide (l.1=f.1) then some true else some (decide (l.2.2.1=f.2.2.1))
 else some false
 else some false)
 fun p=>bif p then some (.inr (.inr (19:Int))) else some (.inl (Vc .i64 (j+(1:Int))))
 else some (.inr (.inl ())))
 (0:Int))
 fun q=>
 Ve
 (fun _=>
 Va (bif f.2.2.2.2.1 then Va (F123 i m f.2.2.1 f.1) fun r=>some r else some false) fun s=>
 bif s then some (19:Int)
 else
 Va
 (run
 (fun k=>
 bif decide (k<m) then
 Va (idx i.2.2.2.1 k) fun h=>
 Va
 (bif decide (h.1=f.1) then
 bif decide (h.2.1=f.2.1) then
 bif decide (h.2.2.1=f.2.2.1) then some (decide (h.2.2.2.1=f.2.2.2.1))
 else some false
 else some false
 else some false)
 fun t=>bif t then some (.inr (.inr (6:Int))) else some (.inl (Vc .i64 (k+(1:Int))))
 else some (.inr (.inl ())))
 (0:Int))
 fun u=>Ve (fun _=>some (0:Int)) (fun w=>some w) u)
 (fun x=>some x) q
def F124E:Zl:=ZK 134 Tryz.f134 177 [F122E,F123E] (hS (hS (.seq (.seq (.reg [(41,Y4)]) .leaf) (hS (.seq (.seq (.reg [(71,Y4)]) .leaf) (hS (.seq (.seq (.reg [(99,Y4)]) .leaf) (.seq (hS (.lp (en [pd 8 Y3] [1,2,5]) [(.exit 0,en [] [1,2,5]),(.ret,en [pd 4 ZA] [])] (hS (.seq (hS (.seq (.reg [(129,Y4)]) .leaf)) .leaf)))) (.seq (.seq (.reg [(140,Y4)]) .leaf) (.seq (hS (.lp (en [pd 10 Y3] [1,2,5]) [(.exit 2,e0),(.ret,en [pd 4 ZA] [])] (hS (.seq (hS (.seq (.reg [(176,Y4)]) .leaf)) .leaf)))) .leaf)))))))))) (.p ZR (.q Y3)) (.pd ZA) (u2 F124)
def F118:(El WD)->(El Y3)->(El Y4)->Option (El Rz):=fun V r W=>
 Va
 (run
 (fun s0=>
 bif decide (s0.2<r) then
 Va
 (run
 (fun l=>
 bif decide (l.2.2<r) then
 Va (ZE (decide (Vb l.2.1+Vb [(1099511627776:Int)]<=Zz))) fun _=>
 some (.inl (l.1,l.2.1++[(1099511627776:Int)],Vc .i64 (l.2.2+(1:Int))))
 else some (.inr (l.1,l.2.1)))
 (s0.1,[],(0:Int)))
 fun w=>
 Va (ZE (decide (Vb w.1+Vb [w.2]<=Zz))) fun _=>
 some (.inl (w.1++[w.2],Vc .i64 (s0.2+(1:Int))))
 else some (.inr s0.1))
 ([],(0:Int)))
 fun X=>
 Va
 (run
 (fun i=>
 bif decide (i.2<(↑(Vb V):Int)) then
 Va (idx V i.2) fun q=>
 Va (bif q.2.2.2.1 then some true else some !W) fun Y=>
 bif Y then
 Va (Zp q.1 (Vb i.1)) fun x=>
 Va i.1[x]? fun _=>
 Va (Zp q.1 (Vb i.1)) fun m=>
 Va i.1[m]? fun _=>
 Va (idx i.1 (↑m:Int)) fun y=>
 Va (Zp q.2.1 (Vb y)) fun A=>
 Va (idx i.1 (↑m:Int)) fun B=>
 Va B[A]? fun C=>
 Va (idx i.1 (↑x:Int)) fun D=>
 Va (Zp q.2.1 (Vb D)) fun s=>
 Va (idx i.1 (↑x:Int)) fun t=>
 Va t[s]? fun _=>
 some
 (.inl (Vg i.1 (Vi (↑x:Int)) (Vg t s (Tr.imin C q.2.2.1)),Vc .i64 (i.2+(1:Int))))
 else some (.inl (i.1,Vc .i64 (i.2+(1:Int))))
 else some (.inr i.1))
 (X,(0:Int)))
 fun E=>
 Va
 (run
 (fun j=>
 bif decide (j.2<r) then
 Va
 (run
 (fun h=>
 bif decide (h.2<r) then
 Va
 (run
 (fun f=>
 bif decide (f.2<r) then
 Va (Zp h.2 (Vb f.1)) fun k=>
 Va f.1[k]? fun _=>
 Va (Zp h.2 (Vb f.1)) fun n=>
 Va f.1[n]? fun _=>
 Va (idx f.1 (↑n:Int)) fun F=>
 Va (Zp f.2 (Vb F)) fun G=>
 Va (idx f.1 (↑n:Int)) fun H=>
 Va H[G]? fun I=>
 Va (Zp h.2 (Vb f.1)) fun o=>
 Va f.1[o]? fun _=>
 Va (idx f.1 (↑o:Int)) fun J=>
 Va (Zp j.2 (Vb J)) fun K=>
 Va (idx f.1 (↑o:Int)) fun L=>
 Va L[K]? fun M=>
 Va (Zp j.2 (Vb f.1)) fun p=>
 Va f.1[p]? fun _=>
 Va (idx f.1 (↑p:Int)) fun N=>
 Va (Zp f.2 (Vb N)) fun O=>
 Va (idx f.1 (↑p:Int)) fun P=>
 Va P[O]? fun Q=>
 Va (idx f.1 (↑k:Int)) fun R=>
 Va (Zp f.2 (Vb R)) fun u=>
 Va (idx f.1 (↑k:Int)) fun v=>
 Va v[u]? fun _=>
 some
 (.inl
 (Vg f.1 (Vi (↑k:Int))
 (Vg v u (Tr.imin I (Vc .i64 (M+Q)))),
 Vc .i64 (f.2+(1:Int))))
 else some (.inr f.1))
 (h.1,(0:Int)))
 fun S=>some (.inl (S,Vc .i64 (h.2+(1:Int))))
 else some (.inr h.1))
 (j.1,(0:Int)))
 fun T=>some (.inl (T,Vc .i64 (j.2+(1:Int))))
 else some (.inr j.1))
 (E,(0:Int)))
 fun U=>some U
def F118E:Zl:=ZK 226 Tryz.f226 116 [] (hS (hS (.seq (hS (.lp (en [(7,.rows Y3 false),pd 8 Y3] [0,1,2]) [(.exit 0,en [(7,.rows Y3 false)] [0,1,2])] (hS (.seq (hS (.seq (hS (.lp (en [(7,.rows Y3 false),(9,.own Y3 false),pd 10 Y3] [0,1,2,8]) [(.exit 2,en [(7,.rows Y3 false),(9,.own Y3 false)] [0,1,2,8])] .leaf)) .leaf)) .leaf)))) (.seq (hS (.lp (en [(7,.rows Y3 false),pd 11 Y3] [0,1,2]) [(.exit 4,en [(7,.rows Y3 false)] [1])] (hS (.seq (hS (.seq (.reg [(50,Y4)]) .leaf)) .leaf)))) (.seq (hS (.lp (en [(7,.rows Y3 false),pd 13 Y3] [1]) [(.exit 6,en [(7,.rows Y3 false)] [])] (hS (.seq (hS (.lp (en [(7,.rows Y3 false),pd 14 Y3] [1,13]) [(.exit 8,en [(7,.rows Y3 false)] [1,13])] (hS (.seq (hS (.lp (en [(7,.rows Y3 false),pd 15 Y3] [1,13,14]) [(.exit 10,en [(7,.rows Y3 false)] [1,13,14])] .leaf)) .leaf)))) .leaf)))) .leaf))))) (.p WD (.p Y3 (.q Y4))) (.pd Rz) (u3 F118) (rws:=[173])
def F116:(El WD)->(El Y3)->Option (El WD):=fun B l=>
 Va (F118 B l false) fun m=>
 Va (F118 B l true) fun n=>
 Va
 (run
 (fun h=>
 bif decide (h.2<l) then
 Va
 (run
 (fun f=>
 bif decide (f.2<l) then
 Va
 (bif decide (h.2=f.2) then some true
 else Va (idx m h.2) fun C=>Va (idx C f.2) fun D=>some (decide ((14400:Int)<D)))
 fun E=>
 bif E then some (.inl (f.1,Vc .i64 (f.2+(1:Int))))
 else
 Va (idx m h.2) fun F=>
 Va (idx F f.2) fun o=>
 Va (idx n h.2) fun G=>
 Va (idx G f.2) fun i=>
 Va (idx m h.2) fun p=>
 Va (idx p f.2) fun j=>
 Va (ZE (decide (Vb f.1+Vb [(h.2,f.2,o,decide (i=j),())]<=Zz))) fun _=>
 Va
 (Va (idx n h.2) fun q=>
 Va (idx q f.2) fun r=>
 Va (idx m h.2) fun s=>
 Va (idx s f.2) fun t=>
 bif decide (t<r) then
 Va (idx n h.2) fun u=>Va (idx u f.2) fun v=>some (decide (v<=(14400:Int)))
 else some false)
 fun w=>
 bif w then
 Va (idx n h.2) fun x=>
 Va (idx x f.2) fun k=>
 Va
 (ZE
 (decide
 (Vb (f.1++[(h.2,f.2,o,decide (i=j),())])+Vb [(h.2,f.2,k,true,())]<=
 Zz)))
 fun _=>
 some
 (.inl
 (f.1++[(h.2,f.2,o,decide (i=j),())]++[(h.2,f.2,k,true,())],
 Vc .i64 (f.2+(1:Int))))
 else some (.inl (f.1++[(h.2,f.2,o,decide (i=j),())],Vc .i64 (f.2+(1:Int))))
 else some (.inr f.1))
 (h.1,(0:Int)))
 fun y=>some (.inl (y,Vc .i64 (h.2+(1:Int))))
 else some (.inr h.1))
 ([],(0:Int)))
 fun A=>some A
def F116E:Zl:=ZK 184 Tryz.f184 107 [F118E] (hS (hS (hS (.seq (hS (.lp (en [(7,.own Wd false),pd 8 Y3] [1,5,6]) [(.exit 0,en [(7,.own Wd false)] [])] (hS (.seq (hS (.lp (en [(7,.own Wd false),pd 9 Y3] [1,5,6,8]) [(.exit 2,en [(7,.own Wd false)] [1,5,6,8])] (hS (.seq (.seq (.seq (.reg [(39,Y4)]) .leaf) (hS (.seq (.reg [(92,Y4)]) .leaf))) .leaf)))) .leaf)))) .leaf)))) (.p WD (.q Y3)) (.pd WD) (u2 F116)
def F125:(El ZR)->Option (El Y3×El ZA):=fun f=>
 Va
 (run
 (fun s0=>
 bif decide (s0<(↑(Vb f.2.2.2.2.1):Int)) then
 Va (idx f.2.2.2.2.1 s0) fun k=>
 Va
 (Va (F122 k.1 (0:Int) (Vc .i64 ((↑(Vb f.1):Int) - (1:Int)))) fun t=>
 bif !t then some true
 else
 Va (F122 k.2.1 (0:Int) (Vc .i64 ((↑(Vb f.1):Int) - (1:Int)))) fun u=>
 bif !u then some true else some (decide (k.1=k.2.1)))
 fun v=>
 bif v then some (.inr (.inr (s0,(9:Int))))
 else
 Va (F122 k.2.2.1 (1:Int) (14400:Int)) fun w=>
 bif !w then some (.inr (.inr (s0,(2:Int))))
 else
 Va
 (run
 (fun p=>
 bif decide (p<s0) then
 Va (idx f.2.2.2.2.1 p) fun s=>
 Va
 (bif decide (s.1=k.1) then
 bif decide (s.2.1=k.2.1) then some (s.2.2.2.1==k.2.2.2.1) else some false
 else some false)
 fun x=>bif x then some (.inr (.inr (s0,(6:Int)))) else some (.inl (Vc .i64 (p+(1:Int))))
 else some (.inr (.inl ())))
 (0:Int))
 fun y=>Ve (fun _=>some (.inl (Vc .i64 (s0+(1:Int))))) (fun m=>some (.inr (.inr (m.1,m.2)))) y
 else some (.inr (.inl ())))
 (0:Int))
 fun q=>
 Ve
 (fun _=>
 Va (F116 f.2.2.2.2.1 (↑(Vb f.1):Int)) fun l=>
 bif !decide ((↑(Vb l):Int)=(↑(Vb f.2.2.2.2.1):Int)) then some ((0:Int),(18:Int))
 else
 Va
 (run
 (fun h=>
 bif decide (h<(↑(Vb l):Int)) then
 Va (idx l h) fun i=>
 Va (idx f.2.2.2.2.1 h) fun j=>
 bif
 !(decide (i.1=j.1) &&
 (decide (i.2.1=j.2.1) && (decide (i.2.2.1=j.2.2.1) &&i.2.2.2.1==j.2.2.2.1))) then
 some (.inr (.inr ((0:Int),(18:Int))))
 else some (.inl (Vc .i64 (h+(1:Int))))
 else some (.inr (.inl ())))
 (0:Int))
 fun r=>Ve (fun _=>some ((0:Int),(0:Int))) (fun n=>some (n.1,n.2)) r)
 (fun o=>some (o.1,o.2)) q
def F125E:Zl:=Ko 135 Tryz.f135 111 [F122E,F116E] (hS (.seq (hS (.lp (en [pd 4 Y3] [1]) [(.exit 0,en [] [1]),(.ret,en [pd 2 Y3,pd 3 ZA] [])] (hS (.seq (hS (.seq (.seq (.reg [(46,Y4)]) .leaf) (hS (hS (.lp (en [pd 6 Y3] [1,4,5]) [(.exit 2,en [] [1,4]),(.ret,en [pd 2 Y3,pd 3 ZA] [])] (hS (.seq (hS (.seq (.reg [(81,Y4)]) .leaf)) .leaf))))))) .leaf)))) (hS (hS (.seq (hS (.lp (en [pd 9 Y3] [1,8]) [(.exit 4,e0),(.ret,en [pd 2 Y3,pd 3 ZA] [])] .leaf)) .leaf))))) (.q ZR) (.p Y3 (.q ZA)) (u1 F125) (fun z=>(((),()),(z.1,z.2,()))) (fun y=>(y.2.1,y.2.2.1))
def F117:(El KY)->Option (El Y3×El ZA):=fun f=>
 Va
 (Va (F122 f.2.1 (0:Int) (1000000:Int)) fun t=>
 bif !t then some true
 else
 Va (F122 f.2.2.1 (0:Int) (86400:Int)) fun u=>
 bif !u then some true else Va (F122 f.2.2.2.1 (0:Int) (1000000:Int)) fun v=>some !v)
 fun w=>
 bif w then some ((-1:Int),(2:Int))
 else
 bif decide ((16:Int)<(↑(Vb f.1):Int)) then some ((0:Int),(5:Int))
 else
 Va
 (run
 (fun h=>
 bif decide (h<(↑(Vb f.1):Int)) then
 Va (idx f.1 h) fun i=>
 Va (F121 i.1) fun x=>
 bif !x then some (.inr (.inr (h,(12:Int))))
 else
 Va
 (run
 (fun l=>
 bif decide (l<h) then
 Va (idx f.1 l) fun y=>
 bif decide (y.1=i.1) then some (.inr (.inr (h,(6:Int)))) else some (.inl (Vc .i64 (l+(1:Int))))
 else some (.inr (.inl ())))
 (0:Int))
 fun A=>
 Ve
 (fun _=>
 Va
 (Va (F122 i.2.1 (0:Int) (1000000:Int)) fun m=>
 bif !m then some true
 else
 Va (F122 i.2.2.1 (1:Int) (8:Int)) fun n=>
 bif !n then some true
 else
 Va (F122 i.2.2.2.1 (1:Int) (16:Int)) fun o=>
 bif !o then some true
 else
 Va (F122 i.2.2.2.2.1 (0:Int) (86400:Int)) fun p=>
 bif !p then some true else Va (F122 i.2.2.2.2.2.1 (1:Int) (255:Int)) fun q=>some !q)
 fun r=>bif r then some (.inr (.inr (h,(2:Int)))) else some (.inl (Vc .i64 (h+(1:Int)))))
 (fun j=>some (.inr (.inr (j.1,j.2)))) A
 else some (.inr (.inl ())))
 (0:Int))
 fun s=>Ve (fun _=>some ((0:Int),(0:Int))) (fun k=>some (k.1,k.2)) s
def F117E:Zl:=Ko 136 Tryz.f136 88 [F121E,F122E] (hS (.seq (.seq (.reg [(22,Y4)]) .leaf) (hS (.seq (hS (.lp (en [pd 4 Y3] [1]) [(.exit 0,e0),(.ret,en [pd 2 Y3,pd 3 ZA] [])] (hS (.seq (hS (hS (.seq (hS (.lp (en [pd 6 Y3] [1,4,5]) [(.exit 2,en [] [1,4,5]),(.ret,en [pd 2 Y3,pd 3 ZA] [])] .leaf)) (.seq (.reg [(86,Y4)]) .leaf)))) .leaf)))) .leaf)))) (.q KY) (.p Y3 (.q ZA)) (u1 F117) (fun z=>(((),()),(z.1,z.2,()))) (fun y=>(y.2.1,y.2.2.1))
def F115:(El ZR)->Option (El Y3×El Y3×El ZA):=fun f=>
 Va (F128 f.1) fun n=>
 bif !decide (n.2=(0:Int)) then some ((0:Int),n.1,n.2)
 else
 Va (F126 f.2.1) fun o=>
 bif !decide (o.2=(0:Int)) then some ((1:Int),o.1,o.2)
 else
 bif decide ((1024:Int)<(↑(Vb f.2.2.1):Int)) then some ((2:Int),(0:Int),(5:Int))
 else
 Va
 (run
 (fun l=>
 bif decide (l<(↑(Vb f.2.2.1):Int)) then
 Va (F127 f l) fun p=>
 bif !decide (p=(0:Int)) then some (.inr (.inr ((2:Int),l,p))) else some (.inl (Vc .i64 (l+(1:Int))))
 else some (.inr (.inl ())))
 (0:Int))
 fun r=>
 Ve
 (fun _=>
 bif decide ((1024:Int)<(↑(Vb f.2.2.2.1):Int)) then some ((3:Int),(0:Int),(5:Int))
 else
 Va
 (run
 (fun m=>
 bif decide (m<(↑(Vb f.2.2.2.1):Int)) then
 Va (F124 f m) fun q=>
 bif !decide (q=(0:Int)) then some (.inr (.inr ((3:Int),m,q)))
 else some (.inl (Vc .i64 (m+(1:Int))))
 else some (.inr (.inl ())))
 (0:Int))
 fun s=>
 Ve
 (fun _=>
 Va (F125 f) fun h=>
 bif !decide (h.2=(0:Int)) then some ((4:Int),h.1,h.2)
 else
 Va (F117 f.2.2.2.2.2.1) fun i=>
 bif !decide (i.2=(0:Int)) then some ((5:Int),i.1,i.2) else some ((0:Int),(0:Int),(0:Int)))
 (fun j=>some (j.1,j.2.1,j.2.2)) s)
 (fun k=>some (k.1,k.2.1,k.2.2)) r
def F115E:Zl:=Ko 94 Tryz.f94 84 [F128E,F126E,F127E,F124E,F125E,F117E] (hS (hS (hS (hS (hS (hS (.seq (hS (.lp (en [pd 7 Y3] [1]) [(.exit 0,en [] [1]),(.ret,en [pd 2 Y3,pd 3 Y3,pd 4 ZA] [])] .leaf)) (hS (.seq (hS (.lp (en [pd 8 Y3] [1]) [(.exit 2,en [] [1]),(.ret,en [pd 2 Y3,pd 3 Y3,pd 4 ZA] [])] .leaf)) .leaf))))))))) (.q ZR) (.p Y3 (.p Y3 (.q ZA))) (u1 F115) (fun z=>(((),()),(z.1,z.2.1,z.2.2,()))) (fun y=>(y.2.1,y.2.2.1,y.2.2.2.1))
def F120:(El ZR)->Option (El Y4):=fun f=>Va (F115 f) fun h=>some (decide (h.2.2=(0:Int)))
def F120E:Zl:=ZK 44 Tryz.f44 14 [F115E] .leaf (.q ZR) (.pd Y4) (u1 F120)
def F119:(El ZR)->Option (El Y4):=fun f=>
 Va
 (bif decide ((5:Int)<(↑(Vb f.1):Int)) then some true
 else
 bif decide ((7:Int)<(↑(Vb f.2.2.1):Int)) then some true
 else
 bif decide ((30:Int)<(↑(Vb f.2.2.2.1):Int)) then some true
 else some (decide ((60:Int)<(↑(Vb f.2.2.2.2.1):Int))))
 fun i=>
 bif i then some false
 else
 Va
 (run
 (fun h=>
 bif decide (h<(↑(Vb f.2.2.1):Int)) then
 Va (idx f.2.2.1 h) fun j=>
 bif decide ((6:Int)<(↑(Vb j.2.2.2.2.2.2.2.1):Int)) then some (.inr (.inr false))
 else some (.inl (Vc .i64 (h+(1:Int))))
 else some (.inr (.inl ())))
 (0:Int))
 fun k=>Ve (fun _=>Va (F120 f) fun l=>some l) (fun m=>some m) k
def F119E:Zl:=ZK 21 Tryz.f21 43 [F120E] (hS (.seq (.seq (.reg [(25,Y4)]) .leaf) (.seq (hS (.lp (en [pd 3 Y3] [1]) [(.exit 0,en [] [1]),(.ret,en [pd 2 Y4] [])] .leaf)) .leaf))) (.q ZR) (.pd Y4) (u1 F119)
def F143:(El Y3)->(El Y3)->(El Y3)->Option (El Y4):=fun f h i=>Va (bif decide (h<=f) then some (decide (f<=i)) else some false) fun j=>some j
def F143E:Zl:=ZK 95 Tryz.f95 15 [] (hS (.seq (.reg [(6,Y4)]) .leaf)) (.p Y3 (.p Y3 (.q Y3))) (.pd Y4) (u3 F143) (rws:=[47])
def F142:(El Y3)->(El Kf)->Option (El Y4):=fun h f=>
 Va
 (Va (F143 f.1 (0:Int) (Vc .i64 (h - (1:Int)))) fun i=>
 bif i then
 Va (F143 f.2.1 (0:Int) (Vc .i64 (h - (1:Int)))) fun j=>
 bif j then
 Va (F143 f.2.2.1 (0:Int) (3155932800:Int)) fun k=>
 bif k then
 Va (F143 f.2.2.2.2.1 (0:Int) (8:Int)) fun l=>
 bif l then
 Va (F143 f.2.2.2.2.2.1 (0:Int) (86400:Int)) fun m=>
 bif m then
 Va (F143 f.2.2.2.2.2.2.2.2.1 (0:Int) (255:Int)) fun n=>
 bif n then bif f.2.2.2.2.2.2.2.2.2.1 then some !f.2.2.2.1 else some !false else some false
 else some false
 else some false
 else some false
 else some false
 else some false)
 fun o=>some o
def F142E:Zl:=ZK 45 Tryz.f45 46 [F143E] (hS (.seq (.reg [(4,Y4)]) .leaf)) (.p Y3 (.q Kf)) (.pd Y4) (u2 F142) (rws:=[47])
def F141:(El ZR)->(El Kf)->Option (El ZA):=fun f h=>
 Va (F120 f) fun i=>
 bif !i then some (21:Int) else Va (F142 (↑(Vb f.1):Int) h) fun j=>bif !j then some (22:Int) else some (0:Int)
def F141E:Zl:=ZK 22 Tryz.f22 14 [F120E,F142E] .leaf (.p ZR (.q Kf)) (.pd ZA) (u2 F141) (rws:=[47])
def F188:(El ZR)->(El Kf)->Option (El Y4):=fun f h=>
 Va
 (Va (F119 f) fun i=>
 bif i then
 bif decide (h.2.2.2.2.1<=(3:Int)) then Va (F141 f h) fun j=>some (decide (j=(0:Int))) else some false
 else some false)
 fun k=>some k
def F188E:Zl:=ZK 6 Tryz.f6 18 [F119E,F141E] (hS (.seq (.reg [(4,Y4)]) .leaf)) (.p ZR (.q Kf)) (.pd Y4) (u2 F188)
def F77:(El Y9)->Option (El Y4):=fun h=>
 Va
 (run
 (fun s0=>
 bif decide (s0<(↑(Vb h):Int)) then
 Va (idx h s0) fun f=>
 Va (bif decide ((97:Int)<=(↑(Vd f):Int)) then some (decide ((↑(Vd f):Int)<=(122:Int))) else some false)
 fun k=>
 Va
 (bif k then some k
 else
 Va (bif decide ((65:Int)<=(↑(Vd f):Int)) then some (decide ((↑(Vd f):Int)<=(90:Int))) else some false)
 fun l=>
 Va
 (bif l then some l
 else
 Va
 (bif decide ((48:Int)<=(↑(Vd f):Int)) then some (decide ((↑(Vd f):Int)<=(57:Int))) else some false)
 fun m=>some m)
 fun n=>some n)
 fun o=>
 bif o then some (.inl (Vc .i64 (s0+(1:Int))))
 else
 Va
 (bif decide ((↑(Vd f):Int)=(45:Int)) then some (decide ((↑(Vd f):Int)=(45:Int)))
 else
 Va
 (bif decide ((↑(Vd f):Int)=(95:Int)) then some (decide ((↑(Vd f):Int)=(95:Int)))
 else some (decide ((↑(Vd f):Int)=(46:Int))))
 fun p=>some p)
 fun q=>bif q then some (.inl (Vc .i64 (s0+(1:Int)))) else some (.inr (.inr false))
 else some (.inr (.inl ())))
 (0:Int))
 fun r=>
 Ve
 (fun _=>
 Va (bif decide ((0:Int)<(↑(Vb h):Int)) then some (decide ((↑(Vb h):Int)<=(32:Int))) else some false) fun i=>
 some i)
 (fun j=>some j) r
def F77E:Zl:=ZK 137 Tryz.f137 48 [] (hS (.seq (hS (.lp (en [pd 3 Y3] [0]) [(.exit 0,en [] [0]),(.ret,en [pd 2 Y4] [])] (hS (.seq (hS (.seq (.seq (.reg [(14,Y4)]) (.cnd (some ((en [] [0,3,4]),[(.normal,en [pd 14 Y4] [0,3,4])])) .leaf (.seq (.reg [(14,Y4)]) (.cnd (some ((en [] [0,3,4]),[(.normal,en [pd 14 Y4] [0,3,4])])) .leaf (.reg [(14,Y4)]))))) (.cnd none .leaf (.seq (hS (.cnd (some ((en [] [0,3]),[(.normal,en [pd 33 Y4] [0,3])])) .leaf (hS (.cnd (some ((en [] [0,3]),[(.normal,en [pd 33 Y4] [0,3])])) .leaf .leaf)))) .leaf)))) .leaf)))) (.seq (.reg [(2,Y4)]) .leaf))) (.q Y9) (.pd Y4) (u1 F77)
def F185:(El Yk)->Option (El Y3×El ZA):=fun h=>
 bif decide ((64:Int)<(↑(Vb h):Int)) then some ((0:Int),(5:Int))
 else
 Va
 (run
 (fun s0=>
 bif decide (s0.2<(↑(Vb h):Int)) then
 Va (idx h s0.2) fun f=>
 Va (F77 f.1) fun j=>
 bif !j then some (.inr (.inr (s0.2,(12:Int))))
 else
 bif Vf (ZI (Zj Y9) f.1 s0.1) (false) then some (.inr (.inr (s0.2,(6:Int))))
 else
 Va
 (bif decide (f.2.1<(0:Int)) then some true
 else
 bif decide ((16:Int)<=f.2.1) then some true
 else bif decide (f.2.2.2.1<(0:Int)) then some true else some (decide ((3600:Int)<f.2.2.2.1)))
 fun k=>
 bif k then some (.inr (.inr (s0.2,(2:Int))))
 else some (.inl (ZY (Zj Y9) f.1 true s0.1,Vc .i64 (s0.2+(1:Int))))
 else some (.inr (.inl ())))
 ([],(0:Int)))
 fun l=>Ve (fun _=>some ((0:Int),(0:Int))) (fun i=>some (i.1,i.2)) l
def F185E:Zl:=Ko 96 Tryz.f96 54 [F77E] (hS (hS (hS (.seq (hS (.lp (en [(4,.map Y9 Y4),pd 13 Y3] [11,12]) [(.exit 0,e0),(.ret,en [pd 2 Y3,pd 3 ZA] [])] (hS (hS (.seq (hS (.seq (hS (.cnd none .leaf (hS (.cnd none .leaf (.seq (.reg [(30,Y4)]) .leaf))))) .leaf)) .leaf))))) .leaf)))) (.q Yk) (.p Y3 (.q ZA)) (u1 F185) (fun z=>(((),()),(z.1,z.2,()))) (fun y=>(y.2.1,y.2.2.1))
def F153:(El Y3)->Option (El Y4):=fun f=>Va (bif decide ((0:Int)<=f) then some (decide (f<(8:Int))) else some false) fun h=>some h
def F153E:Zl:=ZK 138 Tryz.f138 9 [] (hS (.seq (.reg [(2,Y4)]) .leaf)) (.q Y3) (.pd Y4) (u1 F153)
def F152:(El Yl)->Option (El Y3×El ZA):=fun h=>
 bif decide ((64:Int)<(↑(Vb h):Int)) then some ((0:Int),(5:Int))
 else
 Va
 (run
 (fun s0=>
 bif decide (s0.2<(↑(Vb h):Int)) then
 Va (idx h s0.2) fun f=>
 Va (F77 f.1) fun j=>
 bif !j then some (.inr (.inr (s0.2,(12:Int))))
 else
 bif Vf (ZI (Zj Y9) f.1 s0.1) (false) then some (.inr (.inr (s0.2,(6:Int))))
 else
 Va (F153 f.2.1) fun k=>
 bif !k then some (.inr (.inr (s0.2,(2:Int))))
 else some (.inl (ZY (Zj Y9) f.1 true s0.1,Vc .i64 (s0.2+(1:Int))))
 else some (.inr (.inl ())))
 ([],(0:Int)))
 fun l=>Ve (fun _=>some ((0:Int),(0:Int))) (fun i=>some (i.1,i.2)) l
def F152E:Zl:=Ko 97 Tryz.f97 37 [F77E,F153E] (hS (hS (hS (.seq (hS (.lp (en [(4,.map Y9 Y4),pd 13 Y3] [11,12]) [(.exit 0,e0),(.ret,en [pd 2 Y3,pd 3 ZA] [])] .leaf)) .leaf)))) (.q Yl) (.p Y3 (.q ZA)) (u1 F152) (fun z=>(((),()),(z.1,z.2,()))) (fun y=>(y.2.1,y.2.2.1))
def F91:(El Zfh)->Option (El KR):=fun f=>
 Va
 (run
 (fun s0=>
 bif decide (s0.2<(↑(Vb f):Int)) then
 Va (idx f s0.2) fun h=>
 bif !decide (h.2.2.1=(0:Int)) then some (.inr (.inr h)) else some (.inl (s0.1,Vc .i64 (s0.2+(1:Int))))
 else some (.inr (.inl s0.1)))
 (((0:Int),(0:Int),(0:Int),()),(0:Int)))
 fun i=>Ve (fun _=>some ((0:Int),(0:Int),(0:Int),())) (fun j=>some j) i
def F91E:Zl:=ZK 98 Tryz.f98 17 [] (hS (.seq (hS (.lp (en [(2,.var KR (.pd KR)),pd 7 Y3] [5,6]) [(.exit 0,en [(2,.var KR (.pd KR))] []),(.ret,en [(2,.var KR (.pd KR))] [])] .leaf)) .leaf)) (.q Zfh) (.pd KR) (u1 F91)
def F100:(El Y3)->(El Y3)->(El ZA)->Option (El KR):=fun f h i=>some (f,h,i,())
def F100E:Zl:=ZK 99 Tryz.f99 11 [] .leaf (.p Y3 (.p Y3 (.q ZA))) (.pd KR) (u3 F100)
def F7:(El XW)->(El Y3)->(El Y3)->(El Y3)->(El Y3)->Option (El ZA):=fun i h j k l=>
 Va (idx i h) fun f=>
 Va (bif decide (f.1<(0:Int)) then some true else some (decide (j<=f.1))) fun m=>
 bif m then some (9:Int)
 else
 Va
 (bif decide ((0:Int)<h) then Va (idx i (Vc .i64 (h - (1:Int)))) fun n=>some (decide (n.1=f.1))
 else some false)
 fun o=>
 bif o then some (13:Int)
 else
 Va
 (bif decide (f.2.1<k) then some true
 else
 bif decide (f.2.2.1<f.2.1) then some true
 else
 bif decide (l<f.2.2.1) then some true
 else
 bif decide ((0:Int)<h) then
 Va (idx i (Vc .i64 (h - (1:Int)))) fun p=>some (decide (f.2.1<p.2.2.1))
 else some false)
 fun q=>bif q then some (10:Int) else some (0:Int)
def F7E:Zl:=ZK 185 Tryz.f185 70 [] (hS (hS (.seq (.seq (.reg [(24,Y4)]) .leaf) (.seq (.seq (.reg [(37,Y4)]) .leaf) (.seq (.seq (.reg [(69,Y4)]) .leaf) .leaf))))) (.p XW (.p Y3 (.p Y3 (.p Y3 (.q Y3))))) (.pd ZA) (u5 F7)
def F6:(El XW)->(El Y3)->(El Y3)->(El Y3)->Option (El Y3×El ZA):=fun f k l m=>
 Va (bif decide ((↑(Vb f):Int)<(2:Int)) then some true else some (decide ((32:Int)<(↑(Vb f):Int)))) fun n=>
 bif n then some ((0:Int),(5:Int))
 else
 Va
 (run
 (fun h=>
 bif decide (h<(↑(Vb f):Int)) then
 Va (F7 f h k l m) fun i=>
 bif !decide (i=(0:Int)) then some (.inr (.inr (h,i))) else some (.inl (Vc .i64 (h+(1:Int))))
 else some (.inr (.inl ())))
 (0:Int))
 fun o=>Ve (fun _=>some ((0:Int),(0:Int))) (fun j=>some (j.1,j.2)) o
def F6E:Zl:=Ko 139 Tryz.f139 36 [F7E] (hS (.seq (.seq (.reg [(19,Y4)]) .leaf) (.seq (hS (.lp (en [pd 22 Y3] [0,1,2,3,21]) [(.exit 0,e0),(.ret,en [pd 8 Y3,pd 9 ZA] [])] .leaf)) .leaf))) (.p XW (.p Y3 (.p Y3 (.q Y3)))) (.p Y3 (.q ZA)) (u4 F6) (fun z=>(((),(),(),(),()),(z.1,z.2,()))) (fun y=>(y.2.1,y.2.2.1))
def F90:(El ZR)->Option (El KR):=fun i=>
 bif decide ((1024:Int)<(↑(Vb i.2.2.1):Int)) then Va (F100 (2:Int) (0:Int) (5:Int)) fun p=>some p
 else
 Va
 (run
 (fun h=>
 bif decide (h.2.2<(↑(Vb i.2.2.1):Int)) then
 Va (idx i.2.2.1 h.2.2) fun f=>
 Va (F77 f.2.2.2.1) fun q=>
 bif !q then Va (F100 (2:Int) h.2.2 (12:Int)) fun r=>some (.inr (.inr r))
 else
 Va (bif decide (f.1<(-1:Int)) then some true else some (decide (f.2.2.1<(0:Int)))) fun s=>
 bif s then Va (F100 (2:Int) h.2.2 (2:Int)) fun t=>some (.inr (.inr t))
 else
 Va (bif decide (f.2.1<(0:Int)) then some true else some (decide ((36524:Int)<f.2.1))) fun u=>
 bif u then Va (F100 (2:Int) h.2.2 (11:Int)) fun v=>some (.inr (.inr v))
 else
 Va
 (bif decide (f.2.2.2.2.1<(0:Int)) then some true
 else some (decide ((↑(Vb i.2.1):Int)<=f.2.2.2.2.1)))
 fun w=>
 bif w then Va (F100 (2:Int) h.2.2 (9:Int)) fun k=>some (.inr (.inr k))
 else
 Va (F6 f.2.2.2.2.2.2.2.1 (↑(Vb i.1):Int) (0:Int) (3155932800:Int)) fun j=>
 bif !decide (j.2=(0:Int)) then Va (F100 (2:Int) h.2.2 j.2) fun l=>some (.inr (.inr l))
 else
 bif Vf (ZI (Zj Gz) (f.2.2.2.1,f.2.1,f.2.2.1,()) h.2.1) (false) then
 Va (F100 (2:Int) h.2.2 (6:Int)) fun m=>some (.inr (.inr m))
 else
 some
 (.inl
 (h.1,ZY (Zj Gz) (f.2.2.2.1,f.2.1,f.2.2.1,()) true h.2.1,
 Vc .i64 (h.2.2+(1:Int))))
 else some (.inr (.inl h.1)))
 (((0:Int),(0:Int),(0:Int),()),[],(0:Int)))
 fun n=>Ve (fun _=>some ((0:Int),(0:Int),(0:Int),())) (fun o=>some o) n
def F90E:Zl:=ZK 100 Tryz.f100 96 [F100E,F77E,F6E] (hS (hS (hS (.seq (hS (.lp (en [(2,.var KR (.pd KR)),(3,.map Gz Y4),pd 18 Y3] [1,16,17]) [(.exit 0,en [(2,.var KR (.pd KR))] []),(.ret,en [(2,.var KR (.pd KR))] [])] (hS (hS (.seq (hS (.seq (hS (.cnd none .leaf (.seq (.reg [(30,Y4)]) (.cnd none .leaf (.seq (.reg [(41,Y4)]) (.cnd none .leaf (.seq (.reg [(52,Y4)]) .leaf))))))) .leaf)) .leaf))))) .leaf)))) (.q ZR) (.pd KR) (u1 F90)
def F101:(El Y3)->(El Y3)->Option (El Y4):=fun f h=>Va (bif decide ((0:Int)<=f) then some (decide (f<h)) else some false) fun i=>some i
def F101E:Zl:=ZK 140 Tryz.f140 12 [] (hS (.seq (.reg [(4,Y4)]) .leaf)) (.p Y3 (.q Y3)) (.pd Y4) (u2 F101)
def F99:(List (El Y3×El Y3))->(El Y3)->(El Y3)->Option (List (El Y3×El Y3) ×El Y4):=fun f h i=>
 Va
 (run
 (fun s0=>
 bif s0.2 then
 bif decide (s0.1=i) then some (.inr (.inr true))
 else some (.inl (Vf (ZI (Zj Y3) s0.1 f) ((0:Int)),Vk (ZI (Zj Y3) s0.1 f)))
 else some (.inr (.inl ())))
 (Vf (ZI (Zj Y3) h f) ((0:Int)),Vk (ZI (Zj Y3) h f)))
 fun j=>Ve (fun _=>some (f,false)) (fun k=>some (f,k)) j
def F99E:Zl:=Ko 141 Tryz.f141 25 [] (hS (.seq (hS (.lp (en [pd 7 Y3,pd 8 Y4] [0,2]) [(.exit 0,en [] [0]),(.ret,en [pd 6 Y4] [0])] .leaf)) .leaf)) (.cons (.map Y3 Y3) (.p Y3 (.q Y3))) (.q Y4) (u3 F99) (fun z=>((z.1,(),(),()),(z.2,()))) (fun y=>(y.1.1,y.2.1))
def F88:(El ZR)->Option (El KR):=fun i=>
 bif decide ((1024:Int)<(↑(Vb i.2.2.2.1):Int)) then Va (F100 (3:Int) (0:Int) (5:Int)) fun C=>some C
 else
 Va
 (run
 (fun h=>
 bif decide (h.2.2.2.2<(↑(Vb i.2.2.2.1):Int)) then
 Va (idx i.2.2.2.1 h.2.2.2.2) fun f=>
 Va
 (Va (F101 f.1 (↑(Vb i.2.2.1):Int)) fun D=>
 bif !D then some true
 else
 Va (F101 f.2.2.1 (↑(Vb i.2.2.1):Int)) fun E=>
 bif !E then some true else some (decide (f.1=f.2.2.1)))
 fun F=>
 bif F then Va (F100 (3:Int) h.2.2.2.2 (9:Int)) fun G=>some (.inr (.inr G))
 else
 Va (idx i.2.2.1 f.1) fun y=>
 Va (idx i.2.2.1 f.2.2.1) fun B=>
 Va
 (Va (F101 f.2.1 (↑(Vb y.2.2.2.2.2.2.2.1):Int)) fun H=>
 bif !H then some true
 else Va (F101 f.2.2.2.1 (↑(Vb B.2.2.2.2.2.2.2.1):Int)) fun k=>some !k)
 fun l=>
 bif l then Va (F100 (3:Int) h.2.2.2.2 (9:Int)) fun m=>some (.inr (.inr m))
 else
 Va (idx y.2.2.2.2.2.2.2.1 f.2.1) fun n=>
 Va (idx B.2.2.2.2.2.2.2.1 f.2.2.2.1) fun o=>
 bif !decide (n.1=o.1) then Va (F100 (3:Int) h.2.2.2.2 (13:Int)) fun p=>some (.inr (.inr p))
 else
 bif f.2.2.2.2.1 then
 bif !decide (Vc .i64 (f.2.1+(1:Int))=(↑(Vb y.2.2.2.2.2.2.2.1):Int)) then
 Va (F100 (3:Int) h.2.2.2.2 (19:Int)) fun q=>some (.inr (.inr q))
 else
 bif !decide (f.2.2.2.1=(0:Int)) then
 Va (F100 (3:Int) h.2.2.2.2 (19:Int)) fun r=>some (.inr (.inr r))
 else
 bif Vk (ZI (Zj Y3) f.1 h.2.1) then
 Va (F100 (3:Int) h.2.2.2.2 (19:Int)) fun s=>some (.inr (.inr s))
 else
 bif Vf (ZI (Zj Y3) f.2.2.1 h.2.2.1) (false) then
 Va (F100 (3:Int) h.2.2.2.2 (19:Int)) fun t=>some (.inr (.inr t))
 else
 Va (F99 h.2.1 f.2.2.1 f.1) fun j=>
 bif j.2 then Va (F100 (3:Int) h.2.2.2.2 (19:Int)) fun u=>some (.inr (.inr u))
 else
 bif Vf (ZI (Zj Jo) [f.1,f.2.1,f.2.2.1,f.2.2.2.1] h.2.2.2.1) (false) then
 Va (F100 (3:Int) h.2.2.2.2 (6:Int)) fun v=>some (.inr (.inr v))
 else
 bif f.2.2.2.2.1 then
 some
 (.inl
 (h.1,ZY (Zj Y3) f.1 f.2.2.1 j.1,ZY (Zj Y3) f.2.2.1 true h.2.2.1,
 ZY (Zj Jo) [f.1,f.2.1,f.2.2.1,f.2.2.2.1] true h.2.2.2.1,
 Vc .i64 (h.2.2.2.2+(1:Int))))
 else
 some
 (.inl
 (h.1,j.1,h.2.2.1,ZY (Zj Jo) [f.1,f.2.1,f.2.2.1,f.2.2.2.1] true h.2.2.2.1,
 Vc .i64 (h.2.2.2.2+(1:Int))))
 else
 bif Vf (ZI (Zj Jo) [f.1,f.2.1,f.2.2.1,f.2.2.2.1] h.2.2.2.1) (false) then
 Va (F100 (3:Int) h.2.2.2.2 (6:Int)) fun w=>some (.inr (.inr w))
 else
 bif f.2.2.2.2.1 then
 some
 (.inl
 (h.1,ZY (Zj Y3) f.1 f.2.2.1 h.2.1,ZY (Zj Y3) f.2.2.1 true h.2.2.1,
 ZY (Zj Jo) [f.1,f.2.1,f.2.2.1,f.2.2.2.1] true h.2.2.2.1,
 Vc .i64 (h.2.2.2.2+(1:Int))))
 else
 some
 (.inl
 (h.1,h.2.1,h.2.2.1,ZY (Zj Jo) [f.1,f.2.1,f.2.2.1,f.2.2.2.1] true h.2.2.2.1,
 Vc .i64 (h.2.2.2.2+(1:Int))))
 else some (.inr (.inl h.1)))
 (((0:Int),(0:Int),(0:Int),()),[],[],[],(0:Int)))
 fun x=>Ve (fun _=>some ((0:Int),(0:Int),(0:Int),())) (fun A=>some A) x
def F88E:Zl:=ZK 101 Tryz.f101 171 [F100E,F101E,F99E] (hS (hS (hS (hS (.seq (hS (.lp (en [(2,.var KR (.pd KR)),(3,.map Y3 Y3),(4,.map Y3 Y4),(5,.map Jo Y4),pd 24 Y3] [1,22,23]) [(.exit 0,en [(2,.var KR (.pd KR))] []),(.ret,en [(2,.var KR (.pd KR))] [])] (hS (hS (.seq (hS (.seq (.seq (.reg [(51,Y4)]) .leaf) (hS (.seq (.seq (.reg [(81,Y4)]) .leaf) .leaf)))) .leaf))))) .leaf))))) (.q ZR) (.pd KR) (u1 F88)
def F113:(El Y3)->(El Y3)->(El Y3)->Option (El Y4):=fun f h i=>Va (bif decide (h<=f) then some (decide (f<=i)) else some false) fun j=>some j
def F113E:Zl:=ZK 142 Tryz.f142 15 [] (hS (.seq (.reg [(6,Y4)]) .leaf)) (.p Y3 (.p Y3 (.q Y3))) (.pd Y4) (u3 F113)
def F109:(El KY)->Option (El Y3×El ZA):=fun i=>
 Va
 (Va (F113 i.2.1 (0:Int) (1000000:Int)) fun o=>
 bif !o then some true
 else
 Va (F113 i.2.2.1 (0:Int) (86400:Int)) fun p=>
 bif !p then some true else Va (F113 i.2.2.2.1 (0:Int) (1000000:Int)) fun q=>some !q)
 fun r=>
 bif r then some ((-1:Int),(2:Int))
 else
 bif decide ((16:Int)<(↑(Vb i.1):Int)) then some ((0:Int),(5:Int))
 else
 Va
 (run
 (fun f=>
 bif decide (f.2<(↑(Vb i.1):Int)) then
 Va (idx i.1 f.2) fun h=>
 Va (F77 h.1) fun s=>
 bif !s then some (.inr (.inr (f.2,(12:Int))))
 else
 bif Vf (ZI (Zj Y9) h.1 f.1) (false) then some (.inr (.inr (f.2,(6:Int))))
 else
 Va
 (Va (F113 h.2.1 (0:Int) (1000000:Int)) fun t=>
 bif !t then some true
 else
 Va (F113 h.2.2.1 (1:Int) (8:Int)) fun u=>
 bif !u then some true
 else
 Va (F113 h.2.2.2.1 (1:Int) (16:Int)) fun v=>
 bif !v then some true
 else
 Va (F113 h.2.2.2.2.1 (0:Int) (86400:Int)) fun k=>
 bif !k then some true else Va (F113 h.2.2.2.2.2.1 (1:Int) (255:Int)) fun l=>some !l)
 fun m=>
 bif m then some (.inr (.inr (f.2,(2:Int))))
 else some (.inl (ZY (Zj Y9) h.1 true f.1,Vc .i64 (f.2+(1:Int))))
 else some (.inr (.inl ())))
 ([],(0:Int)))
 fun n=>Ve (fun _=>some ((0:Int),(0:Int))) (fun j=>some (j.1,j.2)) n
def F109E:Zl:=Ko 102 Tryz.f102 79 [F77E,F113E] (hS (.seq (.seq (.reg [(22,Y4)]) .leaf) (hS (hS (.seq (hS (.lp (en [(4,.map Y9 Y4),pd 31 Y3] [29,30]) [(.exit 0,e0),(.ret,en [pd 2 Y3,pd 3 ZA] [])] (hS (hS (.seq (hS (hS (hS (.seq (.seq (.reg [(73,Y4)]) .leaf) .leaf)))) .leaf))))) .leaf))))) (.q KY) (.p Y3 (.q ZA)) (u1 F109) (fun z=>(((),()),(z.1,z.2,()))) (fun y=>(y.2.1,y.2.2.1))
def F60:(El WD)->(El Y3)->Option (El Y3×El ZA):=fun i h=>
 Va
 (run
 (fun s0=>
 bif decide (s0.2<(↑(Vb i):Int)) then
 Va (idx i s0.2) fun f=>
 Va
 (bif decide (f.1<(0:Int)) then some (decide (f.1<(0:Int)))
 else
 Va
 (bif decide (h<=f.1) then some (decide (h<=f.1))
 else
 Va
 (bif decide (f.2.1<(0:Int)) then some (decide (f.2.1<(0:Int)))
 else
 Va (bif decide (h<=f.2.1) then some (decide (h<=f.2.1)) else some (decide (f.1=f.2.1))) fun k=>
 some k)
 fun l=>some l)
 fun m=>some m)
 fun n=>
 bif n then some (.inr (.inr (s0.2,(9:Int))))
 else
 Va
 (bif decide (f.2.2.1<(1:Int)) then some (decide (f.2.2.1<(1:Int)))
 else some (decide ((14400:Int)<f.2.2.1)))
 fun o=>
 bif o then some (.inr (.inr (s0.2,(2:Int))))
 else
 bif Vf (ZI (Zj XV) (f.1,f.2.1,f.2.2.2.1,()) s0.1) (false) then some (.inr (.inr (s0.2,(6:Int))))
 else some (.inl (ZY (Zj XV) (f.1,f.2.1,f.2.2.2.1,()) true s0.1,Vc .i64 (s0.2+(1:Int))))
 else some (.inr (.inl ())))
 ([],(0:Int)))
 fun p=>Ve (fun _=>some ((0:Int),(0:Int))) (fun j=>some (j.1,j.2)) p
def F60E:Zl:=Ko 186 Tryz.f186 62 [] (hS (hS (.seq (hS (.lp (en [(6,.map XV Y4),pd 13 Y3] [1,11,12]) [(.exit 0,e0),(.ret,en [pd 4 Y3,pd 5 ZA] [])] (hS (hS (.seq (hS (hS (.seq (.seq (hS (.cnd (some ((en [] [1,6,7,8,9,11,12,13]),[(.normal,en [pd 25 Y4] [1,6,7,8,9,11,12,13])])) .leaf (hS (.cnd (some ((en [] [1,6,7,8,9,11,12,13]),[(.normal,en [pd 25 Y4] [1,6,7,8,9,11,12,13])])) .leaf (hS (.cnd (some ((en [] [1,6,7,8,9,11,12,13]),[(.normal,en [pd 25 Y4] [1,6,7,8,9,11,12,13])])) .leaf (hS (.cnd (some ((en [] [1,6,7,8,9,11,12,13]),[(.normal,en [pd 25 Y4] [1,6,7,8,9,11,12,13])])) .leaf .leaf)))))))) (.cnd none .leaf (.seq (hS (.cnd (some ((en [] [1,6,7,9,11,12,13]),[(.normal,en [pd 46 Y4] [1,6,7,9,11,12,13])])) .leaf .leaf)) .leaf))) .leaf))) .leaf))))) .leaf))) (.p WD (.q Y3)) (.p Y3 (.q ZA)) (u2 F60) (fun z=>(((),(),()),(z.1,z.2,()))) (fun y=>(y.2.1,y.2.2.1))
def F173:(El Y3)->(El Y3)->Option (El Y4):=fun f h=>Va (bif decide (f<(0:Int)) then some true else some (decide (h<=f))) fun i=>some i
def F173E:Zl:=ZK 264 Tryz.f264 11 [] (hS (.seq (.reg [(3,Y4)]) .leaf)) (.p Y3 (.cons (.ro Y3) .nil)) (.pd Y4) (u2 F173)
def F172:(El Y3)->(El DJ)->(El YM)->Option (El ZA):=fun f i p=>
 Va (bif decide (f<(0:Int)) then some true else some (decide ((64:Int)<f))) fun q=>
 bif q then some (2:Int)
 else
 bif decide ((4096:Int)<(↑(Vb i):Int)) then some (5:Int)
 else
 Va
 (run
 (fun j=>
 bif decide (j<(↑(Vb i):Int)) then
 Va (idx i j) fun h=>
 Va (F173 h.1 f) fun r=>
 bif r then some (.inr (.inr (9:Int)))
 else
 Va (F173 h.2.1 f) fun s=>
 bif s then some (.inr (.inr (9:Int)))
 else
 Va (bif decide (h.2.2.1<(0:Int)) then some true else some (decide ((1073741824:Int)<h.2.2.1))) fun t=>
 bif t then some (.inr (.inr (2:Int))) else some (.inl (Vc .i64 (j+(1:Int))))
 else some (.inr (.inl ())))
 (0:Int))
 fun u=>
 Ve
 (fun _=>
 Va
 (run
 (fun k=>
 bif decide (k<(↑(Vb p):Int)) then
 Va (idx p k) fun v=>
 Va (F173 v f) fun l=>
 bif l then some (.inr (.inr (9:Int))) else some (.inl (Vc .i64 (k+(1:Int))))
 else some (.inr (.inl ())))
 (0:Int))
 fun m=>Ve (fun _=>some (0:Int)) (fun n=>some n) m)
 (fun o=>some o) u
def F172E:Zl:=ZK 253 Tryz.f253 57 [F173E] (hS (.seq (.seq (.reg [(17,Y4)]) .leaf) (hS (hS (.seq (hS (.lp (en [pd 24 Y3] [2,7,22,23]) [(.exit 0,en [] [2,7]),(.ret,en [pd 6 ZA] [])] (hS (hS (.seq (hS (hS (.seq (.reg [(45,Y4)]) .leaf))) .leaf))))) (.seq (hS (.lp (en [pd 49 Y3] [7,47,48]) [(.exit 2,e0),(.ret,en [pd 6 ZA] [])] .leaf)) .leaf)))))) (.p Y3 (.p DJ (.q YM))) (.pd ZA) (u3 F172)
def F177:(El DJ)->(El Y4)->Option (List (El Y3×List (El YN))):=fun i j=>
 Va
 (run
 (fun s0=>
 bif decide (s0.2<(↑(Vb i):Int)) then
 Va (idx i s0.2) fun h=>
 Va (bif j then some (h.2.1,h.1,h.2.2) else some h) fun f=>
 Va (ZE (decide (Vb (Vf (ZI (Zj Y3) f.1 s0.1) [])+Vb [f]<=Zz))) fun _=>
 Va (ZE (Tr.holeK Y3 (some f.1) f.1)) fun _=>
 some (.inl (ZY (Zj Y3) f.1 (Vf (ZI (Zj Y3) f.1 s0.1) []++[f]) s0.1,Vc .i64 (s0.2+(1:Int))))
 else some (.inr s0.1))
 ([],(0:Int)))
 fun k=>some k
def F177E:Zl:=ZK 254 Tryz.f254 34 [] (hS (hS (.seq (hS (.lp (en [(5,.mrows Y3 YN),pd 11 Y3] [1,9,10]) [(.exit 0,en [(5,.mrows Y3 YN)] [])] (hS (hS (.seq (hS (.seq (hS (.cnd (some ((en [] [1,5,9,10,11]),[(.normal,en [(7,.var YN (.pd YN))] [1,5,9,10,11])])) .leaf .leaf)) .leaf)) .leaf))))) .leaf))) (.p DJ (.q Y4)) (.mrows Y3 YN) (u2 F177) (rws:=[310])
def F175:(El Zbz)->Option (El YM):=fun h=>
 Va
 (ZE
 (decide
 ((0:El (Tr.Ty.int .i64))<=(↑(Vb h):Int)/\
 (↑(Vb h):Int)<=(↑(Vb h):Int)/\(↑(Vb h):Int)<=(↑Zz:El (Tr.Ty.int .i64)))))
 fun _=>
 Va
 (run
 (fun f=>
 bif decide (f.2<(↑(Vb h):Int)) then
 Va (idx h f.2) fun j=>
 Va (Zp f.2 (Vb f.1)) fun i=>
 Va f.1[i]? fun _=>some (.inl (Vg f.1 i j.2.1,Vc .i64 (f.2+(1:Int))))
 else some (.inr f.1))
 (Vh (Vi (↑(Vb h):Int)) ((0:Int)),(0:Int)))
 fun k=>some k
def F175E:Zl:=ZK 255 Tryz.f255 23 [] (hS (hS (.seq (hS (.lp (en [(3,.own Y3 false),pd 11 Y3] [9,10]) [(.exit 0,en [(3,.own Y3 false)] [])] .leaf)) .leaf))) (.q Zbz) (.pd YM) (u1 F175)
def F176:(El XG)->(El XG)->Option (El Y4):=fun f h=>
 Va
 (bif decide (f.2.1<h.2.1) then some true
 else bif decide (f.2.1=h.2.1) then some (decide (f.2.2.1<h.2.2.1)) else some false)
 fun i=>some i
def F176E:Zl:=ZK 266 Tryz.f266 24 [] (hS (.seq (.reg [(4,Y4)]) .leaf)) (.p XG (.q XG)) (.pd Y4) (u2 F176)
def F72:(Yj)->(El Y3)->(El Y3)->Option (Yj×El Y4):=fun f j k=>
 Va (Zp j (Vb f.2.1)) fun l=>
 Va f.2.1[l]? fun h=>
 Va (Zp k (Vb f.2.1)) fun m=>
 Va f.2.1[m]? fun i=>
 Va (F176 h.1 i.1) fun n=>
 bif n then some (((),f.2.1,f.2.2.1,()),true)
 else
 Va (F176 i.1 h.1) fun o=>
 bif o then some (((),f.2.1,f.2.2.1,()),false) else some (((),f.2.1,f.2.2.1,()),decide (h.2.1<i.2.1))
def F72E:Zl:=Ko 272 Tryz.f272 46 [F176E] .leaf (.cons DE (.p Y3 (.q Y3))) (.q Y4) (u3 F72) (fun z=>((z.1,(),(),()),(z.2,()))) (fun y=>(y.1.1,y.2.1))
def F74:(Yj)->(El Y3)->(El Y3)->Option (Yj):=fun f j k=>
 Va (Zp k (Vb f.2.1)) fun m=>
 Va f.2.1[m]? fun i=>
 Va (Zp j (Vb f.2.1)) fun n=>
 Va f.2.1[n]? fun o=>
 Va (Zp j (Vb f.2.1)) fun h=>
 Va f.2.1[h]? fun _=>
 Va (Zp k (Vb (Vg f.2.1 h i))) fun l=>
 Va (Vg f.2.1 h i)[l]? fun _=>some ((),Vg (Vg f.2.1 h i) l o,f.2.2.1,())
def F74E:Zl:=Ko 273 Tryz.f273 32 [F176E] .leaf (.cons DE (.p Y3 (.q Y3))) .nil (u3 F74) (fun z=>((z,(),(),()),())) (fun y=>y.1.1)
def F71:(Yj)->(El XG)->Option (Yj):=fun h j=>
 Va (ZE (decide (Vb h.2.1+Vb [(j,h.2.2.1,())]<=Zz))) fun _=>
 Va
 (run
 (fun f=>
 bif decide ((0:Int)<f.2) then
 Va
 (F72 ((),f.1.2.1,f.1.2.2.1,()) f.2
 (Vc .i64 (Vn (Vc .i64 (f.2 - (1:Int))) (2:Int))))
 fun i=>
 bif i.2 then
 Va
 (F74 ((),i.1.2.1,i.1.2.2.1,()) f.2
 (Vc .i64 (Vn (Vc .i64 (f.2 - (1:Int))) (2:Int))))
 fun k=>some (.inl (((),k.2.1,k.2.2.1,()),Vc .i64 (Vn (Vc .i64 (f.2 - (1:Int))) (2:Int))))
 else some (.inr ((),i.1.2.1,i.1.2.2.1,()))
 else some (.inr ((),f.1.2.1,f.1.2.2.1,())))
 (((),h.2.1++[(j,h.2.2.1,())],Vc .i64 (h.2.2.1+(1:Int)),()),
 Vc .i64 ((↑(Vb (h.2.1++[(j,h.2.2.1,())])):Int) - (1:Int))))
 fun l=>some ((),l.2.1,l.2.2.1,())
def F71E:Zl:=Ko 267 Tryz.f267 54 [F176E,F72E,F74E] (hS (hS (hS (hS (hS (.lp (en [(0,Ry),pd 4 Y3] []) [(.exit 0,en [(0,Ry)] [])] .leaf)))))) (.cons DE (.q XG)) .nil (u2 F71) (fun z=>((z,(),()),())) (fun y=>y.1.1)
def F68:(Yj)->Option (Yj×El Y3):=fun f=>some (((),f.2.1,f.2.2.1,()),(↑(Vb f.2.1):Int))
def F68E:Zl:=Ko 277 Tryz.f277 10 [F176E] .leaf (.cons DE .nil) (.q Y3) (u1 F68) (fun z=>((z.1,()),(z.2,()))) (fun y=>(y.1.1,y.2.1))
def F69:(Yj)->Option (Yj×El XG×El Y4):=fun h=>
 Va (F68 ((),h.2.1,h.2.2.1,())) fun f=>
 bif decide (f.2=(0:Int)) then some (((),f.1.2.1,f.1.2.2.1,()),((0:Int),(0:Int),(0:Int),()),false)
 else Va (Zp (0:Int) (Vb f.1.2.1)) fun i=>Va f.1.2.1[i]? fun j=>some (((),f.1.2.1,f.1.2.2.1,()),j.1,true)
def F69E:Zl:=Ko 274 Tryz.f274 16 [F176E,F68E] .leaf (.cons DE .nil) (.p XG (.q Y4)) (u1 F69) (fun z=>((z.1,()),(z.2.1,z.2.2,()))) (fun y=>(y.1.1,y.2.1,y.2.2.1))
def F73:(Yj)->Option (Yj):=fun k=>
 Va
 (run
 (fun s0=>
 bif decide ((↑(Vb s0.1.2.1):Int)<=Vc .i64 (Vc .i64 ((2:Int) *s0.2)+(1:Int))) then
 some (.inr ((),s0.1.2.1,s0.1.2.2.1,()))
 else
 bif
 decide
 (Vc .i64 (Vc .i64 (Vc .i64 ((2:Int) *s0.2)+(1:Int))+(1:Int))<
 (↑(Vb s0.1.2.1):Int)) then
 Va
 (F72 ((),s0.1.2.1,s0.1.2.2.1,())
 (Vc .i64 (Vc .i64 (Vc .i64 ((2:Int) *s0.2)+(1:Int))+(1:Int)))
 (Vc .i64 (Vc .i64 ((2:Int) *s0.2)+(1:Int))))
 fun i=>
 Va
 (bif i.2 then some (Vc .i64 (Vc .i64 (Vc .i64 ((2:Int) *s0.2)+(1:Int))+(1:Int)))
 else some (Vc .i64 (Vc .i64 ((2:Int) *s0.2)+(1:Int))))
 fun j=>
 Va (F72 ((),i.1.2.1,i.1.2.2.1,()) j s0.2) fun f=>
 bif !f.2 then some (.inr ((),f.1.2.1,f.1.2.2.1,()))
 else Va (F74 ((),f.1.2.1,f.1.2.2.1,()) s0.2 j) fun l=>some (.inl (((),l.2.1,l.2.2.1,()),j))
 else
 Va
 (F72 ((),s0.1.2.1,s0.1.2.2.1,()) (Vc .i64 (Vc .i64 ((2:Int) *s0.2)+(1:Int))) s0.2)
 fun h=>
 bif !h.2 then some (.inr ((),h.1.2.1,h.1.2.2.1,()))
 else
 Va
 (F74 ((),h.1.2.1,h.1.2.2.1,()) s0.2
 (Vc .i64 (Vc .i64 ((2:Int) *s0.2)+(1:Int))))
 fun m=>some (.inl (((),m.2.1,m.2.2.1,()),Vc .i64 (Vc .i64 ((2:Int) *s0.2)+(1:Int)))))
 (((),k.2.1,k.2.2.1,()),(0:Int)))
 fun n=>some ((),n.2.1,n.2.2.1,())
def F73E:Zl:=Ko 275 Tryz.f275 41 [F176E,F72E,F74E] (hS (.lp (en [(0,Ry),pd 2 Y3] []) [(.ret,en [(0,Ry)] [])] (hS (hS (.seq (hS (.cnd (some ((en [] [0,2]),[(.normal,en [pd 3 Y3] [0,2])])) .leaf .leaf)) .leaf))))) (.cons DE .nil) .nil (u1 F73) (fun z=>((z,()),())) (fun y=>y.1.1)
def F70:(Yj)->Option (Yj×El XG×El Y4):=fun i=>
 Va (F69 ((),i.2.1,i.2.2.1,())) fun f=>
 bif !f.2.2 then some (((),f.1.2.1,f.1.2.2.1,()),f.2.1,false)
 else
 Va (F74 ((),f.1.2.1,f.1.2.2.1,()) (0:Int) (Vc .i64 ((↑(Vb f.1.2.1):Int) - (1:Int))))
 fun h=>
 Va (sliceB (Vb h.2.1) (Vb h.2.1) none (some (Vc .i64 ((↑(Vb f.1.2.1):Int) - (1:Int)))))
 fun k=>
 Va (F73 ((),Vj k.2 h.2.1,h.2.2.1,())) fun j=>some (((),j.2.1,j.2.2.1,()),f.2.1,true)
def F70E:Zl:=Ko 268 Tryz.f268 36 [F176E,F74E,F69E,F73E] .leaf (.cons DE .nil) (.p XG (.q Y4)) (u1 F70) (fun z=>((z.1,()),(z.2.1,z.2.2,()))) (fun y=>(y.1.1,y.2.1,y.2.2.1))
def F76:(Unit)->Option (Yj):=fun _=>some ((),[],(0:Int),())
def F76E:Zl:=Ko 265 Tryz.f265 8 [F176E] .leaf (.cons (.fn 266 .nil) .nil) (.cons DE .nil) (u1 F76) (fun z=>(((),()),(z,()))) (fun y=>y.2.1) (fns:=[266])
def F174:(El Y3)->(List (El Y3×List (El YN)))->(El Y3)->Option (List (El Y3×List (El YN)) ×El Zbz):=fun m p y=>
 Va (ZE (decide ((0:El (Tr.Ty.int .i64))<=m/\m<=m/\m<=(↑Zz:El (Tr.Ty.int .i64))))) fun _=>
 Va
 (run
 (fun k=>
 bif decide (k.2<(↑(Vb (Vh (Vi m) (((0:Int),(0:Int),(0:Int),())))):Int)) then
 Va (Zp k.2 (Vb k.1)) fun v=>
 Va k.1[v]? fun _=>some (.inl (Vg k.1 v (k.2,(-1:Int),(-1:Int),()),Vc .i64 (k.2+(1:Int))))
 else some (.inr k.1))
 (Vh (Vi m) (((0:Int),(0:Int),(0:Int),())),(0:Int)))
 fun A=>
 Va (F76 ()) fun w=>
 Va (F71 ((),w.2.1,w.2.2.1,()) (y,(0:Int),(0:Int),())) fun x=>
 Va
 (run
 (fun i=>
 Va (F70 ((),i.2.2.1,i.2.2.2.1,())) fun h=>
 bif !h.2.2 then some (.inr i.1)
 else
 Va (Zp h.2.1.1 (Vb i.1)) fun B=>
 Va i.1[B]? fun q=>
 bif decide ((0:Int)<=q.2.2.1) then some (.inl (i.1,(),h.1.2.1,h.1.2.2.1,()))
 else
 Va (Zp h.2.1.1 (Vb i.1)) fun j=>
 Va i.1[j]? fun _=>
 Va
 (run
 (fun f=>
 bif decide (f.2<(↑(Vb (Vf (ZI (Zj Y3) h.2.1.1 p) [])):Int)) then
 Va (Zp f.2 (Vb (Vf (ZI (Zj Y3) h.2.1.1 p) []))) fun r=>
 Va (Vf (ZI (Zj Y3) h.2.1.1 p) [])[r]? fun l=>
 Va (Zp l.2.1 (Vb (Vg i.1 j h.2.1))) fun s=>
 Va (Vg i.1 j h.2.1)[s]? fun t=>
 bif decide (t.2.2.1<(0:Int)) then
 Va
 (F71 ((),f.1.2.1,f.1.2.2.1,())
 (l.2.1,Vc .i64 (h.2.1.2.1+l.2.2.1),
 Vc .i64 (h.2.1.2.2.1+(1:Int)),()))
 fun n=>some (.inl (((),n.2.1,n.2.2.1,()),Vc .i64 (f.2+(1:Int))))
 else some (.inl (((),f.1.2.1,f.1.2.2.1,()),Vc .i64 (f.2+(1:Int))))
 else some (.inr ((),f.1.2.1,f.1.2.2.1,())))
 (((),h.1.2.1,h.1.2.2.1,()),(0:Int)))
 fun o=>some (.inl (Vg i.1 j h.2.1,(),o.2.1,o.2.2.1,())))
 (A,(),x.2.1,x.2.2.1,()))
 fun u=>some (p,u)
def F174E:Zl:=Ko 256 Tryz.f256 82 [F76E,F176E,F71E,F70E] (hS (hS (.seq (hS (.lp (en [(7,.own XG false),pd 18 Y3] [1,2,17]) [(.exit 0,en [(7,.own XG false)] [1,2])] .leaf)) (hS (hS (.lp (en [(7,.own XG false),(9,Ry)] [1]) [(.ret,en [(6,.own XG false)] [1])] (hS (hS (hS (hS (hS (.lp (en [(9,Ry),pd 57 Y3] [1,7,10,55,56]) [(.exit 4,en [(9,Ry)] [1,7])] .leaf)))))))))))) (.p Y3 (.cons (.mrows Y3 YN) (.q Y3))) (.q Zbz) (u3 F174) (fun z=>(((),z.1,(),()),(z.2,()))) (fun y=>(y.1.2.1,y.2.1))
def F171:(El Y3)->(El DJ)->Option (El Rz×El ZA):=fun h i=>
 Va (F172 h i []) fun j=>
 bif !decide (j=(0:Int)) then some ([],j)
 else
 Va (F177 i false) fun m=>
 Va (ZE (decide ((0:El (Tr.Ty.int .i64))<=h/\h<=h/\h<=(↑Zz:El (Tr.Ty.int .i64))))) fun _=>
 Va
 (run
 (fun f=>
 bif decide (f.2.2<(↑(Vb (Vh (Vi h) (([]:List (El Y3))))):Int)) then
 Va (F174 h f.1 f.2.2) fun k=>
 Va (F175 k.2) fun n=>
 Va (Zp f.2.2 (Vb f.2.1)) fun l=>
 Va f.2.1[l]? fun _=>some (.inl (k.1,Vg f.2.1 l n,Vc .i64 (f.2.2+(1:Int))))
 else some (.inr f.2.1))
 (m,Vh (Vi h) (([]:List (El Y3))),(0:Int)))
 fun o=>some (o,(0:Int))
def F171E:Zl:=Ko 247 Tryz.f247 35 [F172E,F177E,F175E,F174E] (hS (hS (hS (hS (hS (.seq (hS (.lp (en [(7,.mrows Y3 YN),(8,.own YM false),pd 22 Y3] [0,21]) [(.exit 0,en [(8,.own YM false)] [])] .leaf)) .leaf)))))) (.p Y3 (.q DJ)) (.p Rz (.q ZA)) (u2 F171) (fun z=>(((),(),()),(z.1,z.2,()))) (fun y=>(y.2.1,y.2.2.1))
def F59:(El WD)->(El Y3)->(El Y4)->Option (El Rz):=fun m o p=>
 Va
 (run
 (fun s0=>
 bif decide (s0.2<(↑(Vb m):Int)) then
 Va (idx m s0.2) fun h=>
 Va (bif p then some !h.2.2.2.1 else some false) fun q=>
 bif q then some (.inl (s0.1,Vc .i64 (s0.2+(1:Int))))
 else
 Va
 (bif !Vk (ZI (Zj XV) (h.1,h.2.1,false,()) s0.1) then some true
 else some (decide (h.2.2.1<Vf (ZI (Zj XV) (h.1,h.2.1,false,()) s0.1) ((0:Int)))))
 fun r=>
 bif r then some (.inl (ZY (Zj XV) (h.1,h.2.1,false,()) h.2.2.1 s0.1,Vc .i64 (s0.2+(1:Int))))
 else some (.inl (s0.1,Vc .i64 (s0.2+(1:Int))))
 else some (.inr s0.1))
 ([],(0:Int)))
 fun l=>
 Va
 (ZE
 (decide ((0:El (Tr.Ty.int .i64))<=(0:Int)/\(0:Int)<=(↑(Vb l):Int)/\(↑(Vb l):Int)<=(↑Zz:El (Tr.Ty.int .i64)))))
 fun _=>
 Tr.drun (fun f=>bif Vm f.2 then(1:Nat) else Vb f.2)
 (fun f n=>
 bif Vm f.2 then some (.inr f.1)
 else
 Va f.2[n]? fun i=>
 Va (ZE (decide (Vb f.1+Vb [(i.1.1,i.1.2.1,i.2,())]<=Zz))) fun _=>
 some (.inl (f.1++[(i.1.1,i.1.2.1,i.2,())],List.eraseIdx f.2 n)))
 (fun j=>Va (F171 o j) fun k=>some k.1) (Vh (Vi (0:Int)) (((0:Int),(0:Int),(0:Int),())),l)
def F59E:Zl:=ZK 227 Tryz.f227 81 [F171E] (hS (hS (.seq (hS (.lp (en [(7,.map XV Y3),pd 21 Y3] [1,2,19,20]) [(.exit 0,en [(7,.map XV Y3)] [1])] (hS (hS (.seq (hS (.seq (.seq (.reg [(30,Y4)]) .leaf) (hS (hS (.seq (.reg [(49,Y4)]) .leaf))))) .leaf))))) (hS (.seq (hS (.lpd 59 (en [(13,.own YN false),(59,.it XV Y3)] [1]) [(.exit 2,en [(13,.own YN false)] [1])] .leaf)) .leaf))))) (.p WD (.p Y3 (.q Y4))) (.pd Rz) (u3 F59)
def F9:(El YM)->Option (El Y3):=fun f=>
 Va
 (run
 (fun s0=>
 bif decide (s0<(↑(Vb f):Int)) then
 Va (idx f s0) fun h=>
 bif !decide (h=(0:Int)) then some (.inr (.inr h)) else some (.inl (Vc .i64 (s0+(1:Int))))
 else some (.inr (.inl ())))
 (0:Int))
 fun i=>Ve (fun _=>some (0:Int)) (fun j=>some j) i
def F9E:Zl:=ZK 231 Tryz.f231 18 [] (hS (hS (.seq (hS (.lp (en [pd 8 Y3] [3,6,7]) [(.exit 0,en [] [3]),(.ret,en [pd 2 Y3] [])] .leaf)) .leaf))) (.q YM) (.pd Y3) (u1 F9)
def F10:(El Y3)->Option (El Y4):=fun f=>some !decide (f=f)
def F10E:Zl:=ZK 236 Tryz.f236 6 [] .leaf (.q Y3) (.pd Y4) (u1 F10)
def F8:(El Y3)->(El Y3)->Option (El Y3):=fun f h=>
 Va (F10 f) fun j=>
 Va (F10 h) fun i=>
 bif j then bif i then some (0:Int) else some (-1:Int)
 else bif i then some (1:Int) else bif decide (f<h) then some (-1:Int) else bif decide (h<f) then some (1:Int) else some (0:Int)
def F8E:Zl:=ZK 232 Tryz.f232 20 [F10E] .leaf (.p Y3 (.q Y3)) (.pd Y3) (u2 F8)
def F58:(El Wd)->(El Wd)->Option (El Y3):=fun f h=>
 Va (F8 f.1 h.1) fun i=>
 Va (F8 f.2.1 h.2.1) fun j=>
 Va (F8 f.2.2.1 h.2.2.1) fun k=>Va (F9 [i,j,k]) fun l=>some l
def F58S:Tr.Spec:= {args:=(.cons (.pd Wd) (.cons (.pd Wd) .nil)),res:=(.cons (.pd Y3) .nil),fns:=[],α:=El Y3,f:=fun x=>F58 x.1 x.2.1,unp:=fun z=>(((),(),()),(z,()))}
theorem F58_ok:Z4 Tryz.prog 230 F58S:=Yt (rws:=[]) (zxs:=[]) (nt:=22) (m:=[(231,[F9E.S]),(232,[F8E.S])]) (fn:=Tryz.f230) (hint:=.leaf) (pack:=fun y=>y.2.1) X2 tab_ok ⟨⟨F9E.ok,trivial⟩,⟨F8E.ok,trivial⟩,trivial⟩ fun x z h=>.trans (by kernel_rfl) h
def F58E:Zl:=⟨230,F58S,F58_ok⟩
def F182(f:List (El Wd))(_:Unit):Option (List (El Wd)):=Tr.sortF F58 f
def F182S:Tr.Spec:= {args:=(.cons (.own Wd true) (.cons (.fn 230 .nil) .nil)),res:=.nil,fns:=[230],α:=List (El Wd),f:=fun x=>F182 x.1 x.2.1,unp:=fun z=>((z,(),()),())}
theorem F182_ok:Z4 Tryz.prog 229 F182S:=Tr.sortFunc_ok (ρ:=Tryz.sort229_ren) Tryz.sort229 rfl Tryz.isAgg77 Tryz.sizeOf77 F58_ok
def F182E:Zl:=⟨229,F182S,F182_ok⟩
def F57:(El Y3)->(El Y3)->(El Y3)->(El Y4)->(List (El Wd))->Option (List (El Wd)):=fun i j f k h=>
 Va (bif decide ((0:Int)<f) then some (decide (f<=(14400:Int))) else some false) fun l=>
 bif l then Va (ZE (decide (Vb h+Vb [(i,j,f,k,())]<=Zz))) fun _=>some (h++[(i,j,f,k,())]) else some h
def F57E:Zl:=Ko 228 Tryz.f228 23 [] (.seq (.reg [(14,Y4)]) .leaf) (.p Y3 (.p Y3 (.p Y3 (.p Y4 (.cons (.var WD (.own Wd false)) .nil))))) .nil (u5 F57) (fun z=>(((),(),(),(),z,()),())) (fun y=>y.1.2.2.2.2.1)
def F56:(El WD)->(El Y3)->Option (El WD):=fun n o=>
 Va (F59 n o false) fun p=>
 Va (F59 n o true) fun s=>
 Va
 (run
 (fun h=>
 bif decide (h.2<(↑(Vb p):Int)) then
 Va (idx p h.2) fun q=>
 Va
 (run
 (fun f=>
 bif decide (f.2<(↑(Vb q):Int)) then
 Va (idx q f.2) fun l=>
 bif decide (h.2=f.2) then some (.inl (f.1,Vc .i64 (f.2+(1:Int))))
 else
 Va (idx s h.2) fun t=>
 Va (idx t f.2) fun m=>
 Va (F57 h.2 f.2 l (decide (m=l)) f.1) fun r=>
 bif !decide (m=l) then
 Va (F57 h.2 f.2 m true r) fun u=>some (.inl (u,Vc .i64 (f.2+(1:Int))))
 else some (.inl (r,Vc .i64 (f.2+(1:Int))))
 else some (.inr f.1))
 (h.1,(0:Int)))
 fun i=>some (.inl (i,Vc .i64 (h.2+(1:Int))))
 else some (.inr h.1))
 ([],(0:Int)))
 fun j=>Va (F182 j ()) fun k=>some k
def F56E:Zl:=ZK 187 Tryz.f187 66 [F59E,F57E,F182E,F58E] (hS (hS (hS (hS (.seq (hS (.lp ⟨[(7,.var WD (.own Wd false)),pd 22 Y3],[(8,228,[7])],[5,6,21],[],[],[]⟩ [(.exit 0,en [(7,.var WD (.own Wd false))] [])] (hS (hS (.seq (hS (hS (.lp ⟨[(7,.var WD (.own Wd false)),pd 30 Y3],[(8,228,[7])],[5,6,9,21,22,28,29],[],[],[]⟩ [(.exit 2,⟨[(7,.var WD (.own Wd false))],[(8,228,[7])],[5,6,21,22],[],[],[]⟩)] .leaf))) .leaf))))) .leaf))))) (.p WD (.q Y3)) (.pd WD) (u2 F56)
def F55:(El WD)->(El Y3)->Option (El Y4):=fun f k=>
 bif decide ((64:Int)<k) then some false
 else
 Va (F60 f k) fun m=>
 bif !decide (m.2=(0:Int)) then some false
 else
 Va (F56 f (Tr.imax k (0:Int))) fun l=>
 bif !decide ((↑(Vb l):Int)=(↑(Vb f):Int)) then some false
 else
 Va
 (run
 (fun h=>
 bif decide (h<(↑(Vb l):Int)) then
 Va (idx l h) fun i=>
 Va (idx f h) fun j=>
 bif
 !(decide (i.1=j.1) &&
 (decide (i.2.1=j.2.1) && (decide (i.2.2.1=j.2.2.1) &&i.2.2.2.1==j.2.2.2.1))) then
 some (.inr (.inr false))
 else some (.inl (Vc .i64 (h+(1:Int))))
 else some (.inr (.inl ())))
 (0:Int))
 fun n=>Ve (fun _=>some true) (fun o=>some o) n
def F55E:Zl:=ZK 143 Tryz.f143 43 [F60E,F56E] (hS (hS (hS (hS (hS (.seq (hS (.lp (en [pd 30 Y3] [0,7,29]) [(.exit 0,e0),(.ret,en [pd 4 Y4] [])] .leaf)) .leaf)))))) (.p WD (.q Y3)) (.pd Y4) (u2 F55)
def F89:(El ZR)->Option (El KR):=fun h=>
 Va
 (run
 (fun s0=>
 bif decide (s0.2.2<(↑(Vb h.2.2.2.2.1):Int)) then
 Va (idx h.2.2.2.2.1 s0.2.2) fun f=>
 Va
 (Va (F101 f.1 (↑(Vb h.1):Int)) fun l=>
 bif !l then some true
 else Va (F101 f.2.1 (↑(Vb h.1):Int)) fun m=>bif !m then some true else some (decide (f.1=f.2.1)))
 fun n=>
 bif n then Va (F100 (4:Int) s0.2.2 (9:Int)) fun o=>some (.inr (.inr o))
 else
 Va (bif decide (f.2.2.1<(1:Int)) then some true else some (decide ((14400:Int)<f.2.2.1))) fun p=>
 bif p then Va (F100 (4:Int) s0.2.2 (2:Int)) fun q=>some (.inr (.inr q))
 else
 bif Vf (ZI (Zj Wd) (f.1,f.2.1,(0:Int),f.2.2.2.1,()) s0.2.1) (false) then
 Va (F100 (4:Int) s0.2.2 (6:Int)) fun r=>some (.inr (.inr r))
 else
 some
 (.inl
 (s0.1,ZY (Zj Wd) (f.1,f.2.1,(0:Int),f.2.2.2.1,()) true s0.2.1,Vc .i64 (s0.2.2+(1:Int))))
 else some (.inr (.inl s0.1)))
 (((0:Int),(0:Int),(0:Int),()),[],(0:Int)))
 fun s=>
 Ve
 (fun _=>
 Va (F55 h.2.2.2.2.1 (↑(Vb h.1):Int)) fun i=>
 bif !i then Va (F100 (4:Int) (0:Int) (18:Int)) fun j=>some j else some ((0:Int),(0:Int),(0:Int),()))
 (fun k=>some k) s
def F89E:Zl:=ZK 103 Tryz.f103 78 [F100E,F101E,F55E] (hS (hS (.seq (hS (.lp (en [(2,.var KR (.pd KR)),(3,.map Wd Y4),pd 11 Y3] [1,9,10]) [(.exit 0,en [(2,.var KR (.pd KR))] [1]),(.ret,en [(2,.var KR (.pd KR))] [])] (hS (hS (.seq (hS (hS (.seq (.seq (.reg [(23,Y4)]) (.cnd none .leaf (.seq (.reg [(49,Y4)]) .leaf))) .leaf))) .leaf))))) .leaf))) (.q ZR) (.pd KR) (u1 F89)
def F86:(El ZR)->Option (El Y3×El Y3×El ZA):=fun h=>
 Va (F185 h.1) fun l=>
 Va (F152 h.2.1) fun m=>
 Va (F100 (0:Int) l.1 l.2) fun r=>
 Va (F100 (1:Int) m.1 m.2) fun s=>
 Va (F91 [r,s]) fun n=>
 Va (bif decide (n.2.2.1=(0:Int)) then Va (F90 h) fun t=>some t else some n) fun o=>
 Va (bif decide (o.2.2.1=(0:Int)) then Va (F88 h) fun u=>some u else some o) fun p=>
 Va
 (bif decide (p.2.2.1=(0:Int)) then
 Va (F109 h.2.2.2.2.2.1) fun q=>
 Va (F89 h) fun i=>Va (F100 (5:Int) q.1 q.2) fun j=>Va (F91 [i,j]) fun k=>some k
 else some p)
 fun f=>some (f.1,f.2.1,f.2.2.1)
def F86E:Zl:=Ko 46 Tryz.f46 64 [F185E,F152E,F91E,F100E,F90E,F88E,F109E,F89E] (hS (hS (hS (hS (.seq (hS (.cnd (some ((en [] [1]),[(.normal,en [(9,.var KR (.pd KR))] [1])])) .leaf .leaf)) (.seq (hS (.cnd (some ((en [] [1]),[(.normal,en [(9,.var KR (.pd KR))] [1])])) .leaf .leaf)) (.seq (hS (.cnd (some (e0,[(.normal,en [(9,.var KR (.pd KR))] [])])) .leaf .leaf)) .leaf))))))) (.q ZR) (.p Y3 (.p Y3 (.q ZA))) (u1 F86) (fun z=>(((),()),(z.1,z.2.1,z.2.2,()))) (fun y=>(y.2.1,y.2.2.1,y.2.2.2.1))
def F50:(El Y3)->(El Y3)->(El Y3)->Option (El Y4):=fun f h i=>Va (bif decide (h<=f) then some (decide (f<=i)) else some false) fun j=>some j
def F50E:Zl:=ZK 47 Tryz.f47 15 [] (hS (.seq (.reg [(6,Y4)]) .leaf)) (.p Y3 (.p Y3 (.q Y3))) (.pd Y4) (u3 F50)
def F31:(El ZR)->(El Kf)->Option (El ZA):=fun h f=>
 Va (F86 h) fun i=>
 bif !decide (i.2.2=(0:Int)) then some (21:Int)
 else
 Va
 (Va (F50 f.1 (0:Int) (Vc .i64 ((↑(Vb h.1):Int) - (1:Int)))) fun j=>
 bif !j then some true
 else
 Va (F50 f.2.1 (0:Int) (Vc .i64 ((↑(Vb h.1):Int) - (1:Int)))) fun k=>
 bif !k then some true
 else
 Va (F50 f.2.2.1 (0:Int) (3155932800:Int)) fun l=>
 bif !l then some true
 else
 Va (F50 f.2.2.2.2.1 (0:Int) (8:Int)) fun m=>
 bif !m then some true
 else
 Va (F50 f.2.2.2.2.2.1 (0:Int) (86400:Int)) fun n=>
 bif !n then some true
 else
 Va (F50 f.2.2.2.2.2.2.2.2.1 (0:Int) (255:Int)) fun o=>
 bif !o then some true else bif f.2.2.2.2.2.2.2.2.2.1 then some f.2.2.2.1 else some false)
 fun p=>bif p then some (22:Int) else some (0:Int)
def F31E:Zl:=ZK 24 Tryz.f24 65 [F86E,F50E] (hS (hS (hS (hS (.seq (.seq (.reg [(64,Y4)]) .leaf) .leaf))))) (.p ZR (.q Kf)) (.pd ZA) (u2 F31)
def F98:(El Yk)->Option (El Yk):=fun f=>
 Va (ZE (decide (Vb ([]:List Unit)+Vb f<=Zz))) fun _=>
 Va (Zp (↑(Vb ([]++f)):Int) (Vb ([]++f)+(1:Nat))) fun h=>
 Va (sliceB (Vb ([]++f)) h none (some (↑(Vb ([]++f)):Int))) fun i=>some (Vj i.2 (Vl (0:Nat) ([]++f)))
def F98E:Zl:=ZK 48 Tryz.f48 13 [] .leaf (.q Yk) (.pd Yk) (u1 F98)
def F96:(El Yl)->Option (El Yl):=fun f=>
 Va (ZE (decide (Vb ([]:List Unit)+Vb f<=Zz))) fun _=>
 Va (Zp (↑(Vb ([]++f)):Int) (Vb ([]++f)+(1:Nat))) fun h=>
 Va (sliceB (Vb ([]++f)) h none (some (↑(Vb ([]++f)):Int))) fun i=>some (Vj i.2 (Vl (0:Nat) ([]++f)))
def F96E:Zl:=ZK 49 Tryz.f49 13 [] .leaf (.q Yl) (.pd Yl) (u1 F96)
def F97:(El Y24)->Option (List (El Hv)):=fun f=>
 Va (ZE (decide (Vb ([]:List Unit)+Vb f<=Zz))) fun _=>
 Va (Zp (↑(Vb ([]++f)):Int) (Vb ([]++f)+(1:Nat))) fun h=>
 Va (sliceB (Vb ([]++f)) h none (some (↑(Vb ([]++f)):Int))) fun i=>some (Vj i.2 ([]++f))
def F97E:Zl:=ZK 50 Tryz.f50 13 [] .leaf (.q Y24) (.own Hv false) (u1 F97)
def F94:(El Y25)->Option (List (El GB)):=fun f=>
 Va (ZE (decide (Vb ([]:List Unit)+Vb f<=Zz))) fun _=>
 Va (Zp (↑(Vb ([]++f)):Int) (Vb ([]++f)+(1:Nat))) fun h=>
 Va (sliceB (Vb ([]++f)) h none (some (↑(Vb ([]++f)):Int))) fun i=>some (Vj i.2 ([]++f))
def F94E:Zl:=ZK 51 Tryz.f51 13 [] .leaf (.q Y25) (.own GB false) (u1 F94)
def F93:(El WD)->Option (El WD):=fun f=>
 Va (ZE (decide (Vb ([]:List Unit)+Vb f<=Zz))) fun _=>
 Va (Zp (↑(Vb ([]++f)):Int) (Vb ([]++f)+(1:Nat))) fun h=>
 Va (sliceB (Vb ([]++f)) h none (some (↑(Vb ([]++f)):Int))) fun i=>some (Vj i.2 (Vl (0:Nat) ([]++f)))
def F93E:Zl:=ZK 52 Tryz.f52 13 [] .leaf (.q WD) (.pd WD) (u1 F93)
def F92:(El XW)->Option (El XW):=fun f=>
 Va (ZE (decide (Vb ([]:List Unit)+Vb f<=Zz))) fun _=>
 Va (Zp (↑(Vb ([]++f)):Int) (Vb ([]++f)+(1:Nat))) fun h=>
 Va (sliceB (Vb ([]++f)) h none (some (↑(Vb ([]++f)):Int))) fun i=>some (Vj i.2 (Vl (0:Nat) ([]++f)))
def F92E:Zl:=ZK 53 Tryz.f53 13 [] .leaf (.q XW) (.pd XW) (u1 F92)
def F95:(El GZ)->Option (El GZ):=fun f=>
 Va (ZE (decide (Vb ([]:List Unit)+Vb f<=Zz))) fun _=>
 Va (Zp (↑(Vb ([]++f)):Int) (Vb ([]++f)+(1:Nat))) fun h=>
 Va (sliceB (Vb ([]++f)) h none (some (↑(Vb ([]++f)):Int))) fun i=>some (Vj i.2 (Vl (0:Nat) ([]++f)))
def F95E:Zl:=ZK 54 Tryz.f54 13 [] .leaf (.q GZ) (.pd GZ) (u1 F95)
end
end Q

