/- The functions of the program as functions of Lean, and that the program computes them; printed by a program of mine. Conditions: none. -/
import Derived.KernelRfl
import Derived.Test.YtbjejlpejjnpnaaGreatProg
import Derived.Test.YtbjejlpejjnpnaaGreatETsC
import Derived.Test.YtbjejlpejjnpnaaGreatETsF
import Derived.Test.YtbjejlpejjnpnaaGreatLaytop
import Derived.Test.YtbjejlpejjnpnaaGreatUntop3
import Derived.Test.YtbjejlpejjnpnaaGreatSamtop
import Derived.Test.YtbjejlpejjnpnaaGreatUsetop
import Derived.Test.YtbjejlpejjnpnaaGreatLentop
open Tr Go Go.Proofs
open Int renaming toNat ->Vi,tdiv ->Vn
open Go.IntKind renaming wrap ->Vc
open List renaming length ->Vb,set ->Vg,replicate ->Vh,take ->Vj,drop ->Vl,isEmpty ->Vm
open Option renaming bind ->Va,getD ->Vf,isSome ->Vk
open Sum renaming elim ->Ve
open UInt8 renaming toNat ->Vd
namespace Q
noncomputable section
abbrev hS(h:WL):WL:=.seq .leaf h
abbrev Y3:Ty:=.int .i64
abbrev Y4:Ty:=.bool
abbrev Y9:Ty:=.str
abbrev Zc8:Ty:=.prod Y9 (.prod Y3 (.prod Y4 (.prod Y3 .unit)))
abbrev Yy:Ty:=.sl Zc8
abbrev Zc9:Ty:=.prod Y9 (.prod Y3 (.prod Y4 .unit))
abbrev Yz:Ty:=.sl Zc9
abbrev XS:Ty:=.prod Y3 (.prod Y3 (.prod Y3 (.prod Y4 (.prod Y4 .unit))))
abbrev J6:Ty:=.sl XS
abbrev Hq:Ty:=.prod Y3 (.prod Y3 (.prod Y3 (.prod Y9 (.prod Y3 (.prod Y4 (.prod Y4 (.prod J6 .unit)))))))
abbrev Y24:Ty:=.sl Hq
abbrev H2:Ty:=.prod Y3 (.prod Y3 (.prod Y3 (.prod Y3 (.prod Y4 .unit))))
abbrev Y25:Ty:=.sl H2
abbrev ZJ:Ty:=.prod Y3 (.prod Y3 (.prod Y3 (.prod Y4 .unit)))
abbrev Wq:Ty:=.sl ZJ
abbrev Y2:Ty:=.prod Y9 (.prod Y3 (.prod Y3 (.prod Y3 (.prod Y3 (.prod Y3 .unit)))))
abbrev G1:Ty:=.sl Y2
abbrev K9:Ty:=.prod G1 (.prod Y3 (.prod Y3 (.prod Y3 .unit)))
abbrev ZM:Ty:=.prod Yy (.prod Yz (.prod Y24 (.prod Y25 (.prod Wq (.prod K9 .unit)))))
abbrev Ki:Ty:=.prod Y3 (.prod Y3 (.prod Y3 (.prod Y4 (.prod Y3 (.prod Y3 (.prod Y4 (.prod Y4 (.prod Y3 (.prod Y4 .unit)))))))))
abbrev ZA:Ty:=.int .i64
abbrev JR:Ty:=.prod Y4 (.prod Y3 (.prod Y3 (.prod Y3 (.prod Y3 (.prod Y3 (.prod Y3 (.prod Y3 (.prod Y4 .unit))))))))
abbrev DR:Ty:=.sl JR
abbrev Xk:Ty:=.prod DR .unit
abbrev DS:Ty:=.prod Y3 (.prod Y3 (.prod Y3 (.prod Y3 (.prod Y3 .unit))))
abbrev G0:Ty:=.prod Y3 (.prod Y3 (.prod Y3 (.prod Y3 .unit)))
abbrev RJ:Ty:=.sl G0
abbrev K4:Ty:=.prod Xk (.prod DS (.prod RJ .unit))
abbrev YA:Ty:=.sl K4
abbrev Xl:Ty:=.arr 4 Y3
abbrev Y43:Ty:=.sl Xl
abbrev Y49:Ty:=.prod Y3 (.prod Y3 (.prod ZA (.prod Y3 .unit)))
abbrev KP:Ty:=.arr 4 Y3
abbrev W8:Ty:=.prod Y3 (.prod Y3 (.prod Y3 (.prod Y3 .unit)))
abbrev Jf:Ty:=.sl W8
abbrev Y0:Ty:=.sl Y3
abbrev XT:Ty:=.pt K9
abbrev Zda:Ty:=.arr 9 Y3
abbrev WC:Ty:=.lk XT (.prod W8 (.prod Y3 (.prod Zda .unit)))
abbrev Wh:Ty:=.prod Y3 (.prod Y3 (.prod Y3 (.prod Y3 (.prod W8 .unit))))
abbrev KV:Ty:=.prod Wh (.prod Y3 (.prod Y3 (.prod Y3 (.prod WC (.prod DR .unit)))))
abbrev Zik:Ty:=.sl KV
abbrev Zif:Ty:=.ref
abbrev Zig:Ty:=.ref
abbrev Zfk:Ty:=.prod ZM (.prod Ki (.prod Zif (.prod Zig (.prod YA .unit))))
abbrev Zih:Ty:=.ref
abbrev Zii:Ty:=.prod Y4 (.prod Y3 (.prod RJ .unit))
abbrev ZnJ:Ty:=.sl Zii
abbrev KS:Ty:=.prod Y3 (.prod Y3 (.prod ZA .unit))
abbrev ZnK:Ty:=.sl Xk
abbrev RE:Ty:=.sl Y0
abbrev ZnL:Ty:=.int .u64
abbrev ZnM:Ty:=.prod XT (.prod WC (.prod W8 (.prod Y3 (.prod Zda .unit))))
abbrev Zav:Ty:=.prod KV (.prod Y3 .unit)
abbrev Zij:Ty:=.sl Zav
abbrev Zdb:Ty:=.prod Zih (.prod Zij (.prod Y3 .unit))
abbrev RG:Ty:=.sl KP
abbrev Wi:Ty:=.prod ZM (.prod Ki (.prod DR (.prod Y3 .unit)))
abbrev DP:Ty:=.int .u64
abbrev KW:Ty:=.int .u64
abbrev Zdc:Ty:=.prod Y4 (.prod Y3 (.prod Y3 (.prod G0 .unit)))
abbrev Jt:Ty:=.arr 9 Zdc
abbrev ZnN:Ty:=.ref
abbrev Zfl:Ty:=.sl KS
abbrev Gw:Ty:=.prod Y9 (.prod Y3 (.prod Y3 .unit))
abbrev ZnO:Ty:=.ref
abbrev ZnP:Ty:=.ref
abbrev ZnQ:Ty:=.ref
abbrev ZnR:Ty:=.ref
abbrev ZnS:Ty:=.ref
abbrev X6:Ty:=.prod Y3 (.prod Y3 (.prod Y4 .unit))
abbrev ZnT:Ty:=.ref
abbrev Gx:Ty:=.prod Y3 (.prod Y3 (.prod Y3 (.prod Y3 (.prod DP .unit))))
abbrev Zfm:Ty:=.sl Gx
abbrev ZnU:Ty:=.ref
abbrev Y1:Ty:=.prod Y3 (.prod Y3 (.prod Y3 .unit))
abbrev DQ:Ty:=.sl Y1
abbrev ZnV:Ty:=.ref
abbrev XU:Ty:=.prod Y3 (.prod Y3 (.prod Y3 .unit))
abbrev ZbJ:Ty:=.sl XU
abbrev Zil:Ty:=.ref
abbrev ZbK:Ty:=.prod XU (.prod Y3 .unit)
abbrev Zim:Ty:=.sl ZbK
abbrev Zfn:Ty:=.prod Zil (.prod Zim (.prod Y3 .unit))
def tyTab:List (Nat×Ty):=[(3,Y3),(4,Y4),(9,Y9),(101,Zc8),(22,Yy),(103,Zc9),(23,Yz),(105,XS),(71,J6),(73,Hq),(24,Y24),(97,H2),(25,Y25),(77,ZJ),(26,Wq),(94,Y2),(27,G1),(29,K9),(31,ZM),(33,Ki),(36,ZA),(79,JR),(45,DR),(47,Xk),(55,DS),(159,G0),(56,RJ),(62,K4),(39,YA),(59,Xl),(43,Y43),(49,Y49),(82,KP),(134,W8),(86,Jf),(118,Y0),(180,XT),(181,Zda),(124,WC),(136,Wh),(138,KV),(239,Zik),(128,Zif),(129,Zig),(131,Zfk),(139,Zih),(155,Zii),(153,ZnJ),(166,KS),(172,ZnK),(173,RE),(179,ZnL),(183,ZnM),(267,Zav),(184,Zij),(186,Zdb),(191,RG),(194,Wi),(196,DP),(197,KW),(204,Zdc),(205,Jt),(212,ZnN),(215,Zfl),(219,Gw),(216,ZnO),(220,ZnP),(221,ZnQ),(222,ZnR),(225,ZnS),(283,X6),(281,ZnT),(297,Gx),(294,Zfm),(302,ZnU),(305,Y1),(303,DQ),(310,ZnV),(320,XU),(313,ZbJ),(323,Zil),(333,ZbK),(329,Zim),(331,Zfn)]
def mapTab:List (Nat×Ty×Ty):=[(128,Wh,Zik),(212,Y9,Y4),(216,Gw,Y4),(220,Y3,Y3),(221,Y3,Y4),(222,Xl,Y4),(225,ZJ,Y4),(281,X6,Y4),(302,X6,Y3),(310,Y3,DQ)]
def pkTab:List (Nat×Nat):=[(124,1),(129,1),(139,2),(321,1),(323,2)]
def bdTab:List (Nat×Nat):=[]
theorem Xr:Tryz.prog.follows .mixedOrders=true:=by kernel_rfl
theorem tab_ok:ZcQ Tryz.prog tyTab mapTab pkTab bdTab=true:=by kernel_rfl
abbrev pd(n:Nat)(t:Ty):Nat×Zy:=(n,.pd t)
abbrev en(a:List (Nat×Zy))(c:List Nat):WZ:=⟨a,[],c,[],[],[]⟩
abbrev e0:WZ:=⟨[],[],[],[],[],[]⟩
variable {a b c d e g z:Type}
abbrev u1(f:a->z)(x:a×Unit):z:=f x.1
abbrev u2(f:a->b->z)(x:a×b×Unit):z:=f x.1 x.2.1
abbrev u3(f:a->b->c->z)(x:a×b×c×Unit):z:=f x.1 x.2.1 x.2.2.1
abbrev u4(f:a->b->c->d->z)(x:a×b×c×d×Unit):z:=f x.1 x.2.1 x.2.2.1 x.2.2.2.1
abbrev u5(f:a->b->c->d->e->z)(x:a×b×c×d×e×Unit):z:=f x.1 x.2.1 x.2.2.1 x.2.2.2.1 x.2.2.2.2.1
abbrev u6(f:a->b->c->d->e->g->z)(x:a×b×c×d×e×g×Unit):z:=f x.1 x.2.1 x.2.2.1 x.2.2.2.1 x.2.2.2.2.1 x.2.2.2.2.2.1
structure Zm where
 i:Nat
 S:Tr.Spec
 ok:ZX Tryz.prog i S
def ofE:List Zm->List (Nat×List Tr.Spec)
 |[]=>[]
 |e::l=>(e.i,e.S::(l.filter fun d=>Nat.beq d.i e.i).map Zm.S)::ofE l
theorem Zld:∀l,Rx Tryz.prog (ofE l)
 |[]=>trivial
 |e::l=>⟨⟨e.ok,f e.i _ fun d j=>Nat.eq_of_beq_eq_true (List.mem_filter.1 j).2⟩,Zld l⟩
where f (i:Nat):∀l:List Zm,(∀d∈l,d.i=i)->Ry Tryz.prog i (l.map Zm.S)
 |[],_=>trivial
 |e::l,h=>⟨h e (by simp) ▸e.ok,f i l fun d j=>h d (by simp [j])⟩
abbrev _root_.Tr.Pats.p(t:Ty)(l:Pats):Pats:=.cons (.pd t) l
abbrev _root_.Tr.Pats.q(t:Ty):Pats:=.cons (.pd t) .nil
def Kg(i:Nat)(fn:Func)(nt:Nat)(l:List Zm)(hint:WL)(args res:Pats){α:Type}(f:KJ args->Option α)(unp:α->WB args×KJ res)(pack:WB args×KJ res->α)(rws zxs:List Nat:=[])(fns:List FuncId:=[])(pl:Bool:=true)(kp:List (Nat×Nat×Nat):=[])
    (n:∀x z,f x=some z->GD (mkE tyTab mapTab pkTab rws zxs (ofE l) nt bdTab) (HK fn) fn.results hint args res pack x kp=some z:=by intro x z h;exact .trans (by kernel_rfl) h)
    (t:Tryz.prog.funcs[i]? =some fn:=by kernel_rfl) (s:fn.body=some (HK fn):=by kernel_rfl) (o:nt=fn.ntmps:=by kernel_rfl) (j:(fn.name== "runtime.NumGoroutine")=false:=by kernel_rfl)
    (r:args.wf=true:=by kernel_rfl) (m:Nat.ble args.len nt=true:=by kernel_rfl) (k:∀y,unp (pack y)=y:=by intro y;rfl) (q:(!pl|| (ofE l).all fun p=>p.2.all (·.pl))=true:=by kernel_rfl):Zm:=
 ⟨i, {args,res,fns,α,f,unp,pl,kp},XG Xr tab_ok (Zld l) n t s o j r m k q⟩
def ZK(i:Nat)(fn:Func)(nt:Nat)(l:List Zm)(hint:WL)(args:Pats)(r:Zy)(f:KJ args->Option (WO r))(rws zxs:List Nat:=[])(fns:List FuncId:=[])(pl:Bool:=true)(u:WB args:=by repeat' constructor)
    (n:∀x z,f x=some z->GD (mkE tyTab mapTab pkTab rws zxs (ofE l) nt bdTab) (HK fn) fn.results hint args (Pats.cons r .nil) (fun y:WB args×KJ (Pats.cons r .nil)=>(y.2.1:WO r)) x []=some z:=by intro x z h;exact .trans (by kernel_rfl) h)
    (v:Tryz.prog.funcs[i]? =some fn:=by kernel_rfl) (t:fn.body=some (HK fn):=by kernel_rfl) (o:nt=fn.ntmps:=by kernel_rfl) (j:(fn.name== "runtime.NumGoroutine")=false:=by kernel_rfl)
    (s:args.wf=true:=by kernel_rfl) (m:Nat.ble args.len nt=true:=by kernel_rfl) (k:∀y:WB args,u=y:=by intro y;rfl) (q:(!pl|| (ofE l).all fun p=>p.2.all (·.pl))=true:=by kernel_rfl):Zm:=
 Kg i fn nt l hint args (.cons r .nil) f (fun z=>(u,(z,()))) (fun y=>y.2.1) rws zxs fns pl [] n v t o j s m (fun y=>by rw[k y.1]) q
abbrev ZnB:Zy:=.agg (.cons (.fn 69 .nil) (.cons (.own Zav true) (.q Y3)))
abbrev ZnA:Zy:=.agg (.cons (.fn 69 .nil) (.cons (.own Zav false) (.q Y3)))
abbrev Znz:Zy:=.agg (.cons (.fn 266 .nil) (.cons (.own ZbK true) (.q Y3)))
abbrev DK:Zy:=.var Zdb ZnB
abbrev Zny:Zy:=.var Zdb ZnA
abbrev DJ:Zy:=.var Zfn Znz
abbrev Pz9:Zy:=.agg (.cons (.fn 69 .nil) (.cons (.own Zav false) (.cons (.pd Y3) .nil)))
abbrev Pz8:Zy:=.agg (.cons (.fn 266 .nil) (.cons (.own ZbK false) (.cons (.pd Y3) .nil)))
abbrev Pz7:Zy:=.var Zdb Pz9
abbrev RD:Zy:=.var Zfn Pz8
abbrev Pz5:Zy:=.agg (.cons (.pd Yy) (.cons (.pd Yz) (.cons (.own Hq false) (.cons (.own H2 false) (.cons (.pd Wq) (.cons (.pd K9) .nil))))))
abbrev DL:Zy:=.var ZM Pz5
abbrev Pz3:Zy:=.agg (.p ZM (.p Ki (.cons (.mrows Wh KV) (.cons Zny (.cons (.own K4 false) .nil)))))
abbrev HF:Zy:=.var Zfk Pz3
abbrev Pz1:Zy:=.agg (.cons (.pd ZM) (.cons (.pd Ki) (.cons (.mrows Wh KV) (.cons Pz7 (.cons (.own K4 false) .nil)))))
abbrev Yu:Zy:=.var Zfk Pz1
abbrev X5:=Unit×List (El Zav) ×El Y3×Unit
abbrev Yx:=Unit×List (El ZbK) ×El Y3×Unit
abbrev Jd:=El ZM×El Ki×List (El Wh×List (El KV)) ×X5×List (El K4) ×Unit
def F121:(El Y9)->Option (El Y4):=fun h=>
 Va (bif decide ((↑(Vb h):Int)<(1:Int)) then some true else some (decide ((32:Int)<(↑(Vb h):Int)))) fun j=>
 bif j then some false
 else
 Va
 (run
 (fun i=>
 bif decide (i<(↑(Vb h):Int)) then
 Va (idx h i) fun f=>
 Va
 (bif decide ((97:Int)<=(↑(Vd f):Int)) then
 bif decide ((↑(Vd f):Int)<=(122:Int)) then some true
 else
 bif decide ((65:Int)<=(↑(Vd f):Int)) then
 bif decide ((↑(Vd f):Int)<=(90:Int)) then some true
 else bif decide ((48:Int)<=(↑(Vd f):Int)) then some (decide ((↑(Vd f):Int)<=(57:Int))) else some false
 else bif decide ((48:Int)<=(↑(Vd f):Int)) then some (decide ((↑(Vd f):Int)<=(57:Int))) else some false
 else
 bif decide ((65:Int)<=(↑(Vd f):Int)) then
 bif decide ((↑(Vd f):Int)<=(90:Int)) then some true
 else bif decide ((48:Int)<=(↑(Vd f):Int)) then some (decide ((↑(Vd f):Int)<=(57:Int))) else some false
 else bif decide ((48:Int)<=(↑(Vd f):Int)) then some (decide ((↑(Vd f):Int)<=(57:Int))) else some false)
 fun k=>
 Va
 (bif !k then
 bif !decide ((↑(Vd f):Int)=(45:Int)) then
 bif !decide ((↑(Vd f):Int)=(95:Int)) then some !decide ((↑(Vd f):Int)=(46:Int)) else some false
 else some false
 else some false)
 fun l=>bif l then some (.inr (.inr false)) else some (.inl (Vc .i64 (i+(1:Int))))
 else some (.inr (.inl ())))
 (0:Int))
 fun m=>Ve (fun _=>some true) (fun n=>some n) m
def F121E:Zm:=ZK 180 Tryz.f180 59 [] (hS (.seq (.seq (.reg [(13,Y4)]) .leaf) (.seq (hS (.lp (en [pd 3 Y3] [0]) [(.exit 0,e0),(.ret,en [pd 2 Y4] [])] (hS (.seq (hS (.seq (.reg [(5,Y4)]) (.seq (.reg [(58,Y4)]) .leaf))) .leaf)))) .leaf))) (.q Y9) (.pd Y4) (u1 F121)
def F122:(El Y3)->(El Y3)->(El Y3)->Option (El Y4):=fun f h i=>Va (bif decide (h<=f) then some (decide (f<=i)) else some false) fun j=>some j
def F122E:Zm:=ZK 181 Tryz.f181 15 [] (hS (.seq (.reg [(6,Y4)]) .leaf)) (.p Y3 (.p Y3 (.q Y3))) (.pd Y4) (u3 F122)
def F128:(El Yy)->Option (El Y3×El ZA):=fun f=>
 bif decide ((64:Int)<(↑(Vb f):Int)) then some ((0:Int),(5:Int))
 else
 Va
 (run
 (fun s0=>
 bif decide (s0<(↑(Vb f):Int)) then
 Va (idx f s0) fun o=>
 Va (F121 o.1) fun p=>
 bif !p then some (.inr (.inr (s0,(12:Int))))
 else
 Va
 (run
 (fun j=>
 bif decide (j<s0) then
 Va (idx f j) fun q=>
 Va (idx f s0) fun r=>
 bif decide (q.1=r.1) then some (.inr (.inr (s0,(6:Int)))) else some (.inl (Vc .i64 (j+(1:Int))))
 else some (.inr (.inl ())))
 (0:Int))
 fun s=>
 Ve
 (fun _=>
 Va
 (Va (idx f s0) fun t=>
 Va (F122 t.2.1 (0:Int) (15:Int)) fun u=>
 bif !u then some true
 else Va (idx f s0) fun k=>Va (F122 k.2.2.2.1 (0:Int) (3600:Int)) fun l=>some !l)
 fun m=>bif m then some (.inr (.inr (s0,(2:Int)))) else some (.inl (Vc .i64 (s0+(1:Int)))))
 (fun h=>some (.inr (.inr (h.1,h.2)))) s
 else some (.inr (.inl ())))
 (0:Int))
 fun n=>Ve (fun _=>some ((0:Int),(0:Int))) (fun i=>some (i.1,i.2)) n
def F128E:Zm:=Kg 131 Tryz.f131 57 [F121E,F122E] (hS (hS (.seq (hS (.lp (en [pd 4 Y3] [0]) [(.exit 0,e0),(.ret,en [pd 2 Y3,pd 3 ZA] [])] (hS (.seq (hS (.seq (hS (.lp (en [pd 5 Y3] [0,4]) [(.exit 2,en [] [0,4]),(.ret,en [pd 2 Y3,pd 3 ZA] [])] .leaf)) (.seq (.reg [(55,Y4)]) .leaf))) .leaf)))) .leaf))) (.q Yy) (.p Y3 (.q ZA)) (u1 F128) (fun z=>(((),()),(z.1,z.2,()))) (fun y=>(y.2.1,y.2.2.1))
def F126:(El Yz)->Option (El Y3×El ZA):=fun f=>
 bif decide ((64:Int)<(↑(Vb f):Int)) then some ((0:Int),(5:Int))
 else
 Va
 (run
 (fun s0=>
 bif decide (s0<(↑(Vb f):Int)) then
 Va (idx f s0) fun l=>
 Va (F121 l.1) fun m=>
 bif !m then some (.inr (.inr (s0,(12:Int))))
 else
 Va
 (run
 (fun j=>
 bif decide (j<s0) then
 Va (idx f j) fun n=>
 Va (idx f s0) fun o=>
 bif decide (n.1=o.1) then some (.inr (.inr (s0,(6:Int)))) else some (.inl (Vc .i64 (j+(1:Int))))
 else some (.inr (.inl ())))
 (0:Int))
 fun p=>
 Ve
 (fun _=>
 Va (idx f s0) fun q=>
 Va (F122 q.2.1 (0:Int) (7:Int)) fun r=>
 bif !r then some (.inr (.inr (s0,(2:Int)))) else some (.inl (Vc .i64 (s0+(1:Int)))))
 (fun h=>some (.inr (.inr (h.1,h.2)))) p
 else some (.inr (.inl ())))
 (0:Int))
 fun k=>Ve (fun _=>some ((0:Int),(0:Int))) (fun i=>some (i.1,i.2)) k
def F126E:Zm:=Kg 132 Tryz.f132 48 [F121E,F122E] (hS (hS (.seq (hS (.lp (en [pd 4 Y3] [0]) [(.exit 0,e0),(.ret,en [pd 2 Y3,pd 3 ZA] [])] (hS (.seq (hS (.seq (hS (.lp (en [pd 5 Y3] [0,4]) [(.exit 2,en [] [0,4]),(.ret,en [pd 2 Y3,pd 3 ZA] [])] .leaf)) .leaf)) .leaf)))) .leaf))) (.q Yz) (.p Y3 (.q ZA)) (u1 F126) (fun z=>(((),()),(z.1,z.2,()))) (fun y=>(y.2.1,y.2.2.1))
def F114:(El J6)->(El Y3)->(El Y3)->(El Y3)->Option (El ZA):=fun i k l m=>
 Va (bif decide ((↑(Vb i):Int)<(2:Int)) then some true else some (decide ((32:Int)<(↑(Vb i):Int)))) fun n=>
 bif n then some (5:Int)
 else
 Va
 (run
 (fun h=>
 bif decide (h<(↑(Vb i):Int)) then
 Va (idx i h) fun f=>
 Va (bif decide (f.1<(0:Int)) then some true else some (decide (k<=f.1))) fun o=>
 bif o then some (.inr (.inr (9:Int)))
 else
 Va
 (bif decide ((0:Int)<h) then Va (idx i (Vc .i64 (h - (1:Int)))) fun p=>some (decide (p.1=f.1))
 else some false)
 fun q=>
 bif q then some (.inr (.inr (13:Int)))
 else
 Va
 (bif decide (f.2.1<l) then some true
 else
 bif decide (f.2.2.1<f.2.1) then some true
 else
 bif decide (m<f.2.2.1) then some true
 else
 bif decide ((0:Int)<h) then
 Va (idx i (Vc .i64 (h - (1:Int)))) fun r=>some (decide (f.2.1<r.2.2.1))
 else some false)
 fun s=>bif s then some (.inr (.inr (10:Int))) else some (.inl (Vc .i64 (h+(1:Int))))
 else some (.inr (.inl ())))
 (0:Int))
 fun t=>Ve (fun _=>some (0:Int)) (fun j=>some j) t
def F114E:Zm:=ZK 182 Tryz.f182 83 [] (hS (.seq (.seq (.reg [(18,Y4)]) .leaf) (.seq (hS (.lp (en [pd 9 Y3] [0,1,2,3]) [(.exit 0,e0),(.ret,en [pd 8 ZA] [])] (hS (.seq (hS (.seq (.seq (.reg [(37,Y4)]) .leaf) (.seq (.seq (.reg [(50,Y4)]) .leaf) (.seq (.reg [(82,Y4)]) .leaf)))) .leaf)))) .leaf))) (.p J6 (.p Y3 (.p Y3 (.q Y3)))) (.pd ZA) (u4 F114)
def F127:(El ZM)->(El Y3)->Option (El ZA):=fun h l=>
 Va (idx h.2.2.1 l) fun f=>
 Va (F121 f.2.2.2.1) fun n=>
 bif !n then some (12:Int)
 else
 Va (bif decide (f.1<(-1:Int)) then some true else some (decide (f.2.2.1<(0:Int)))) fun o=>
 bif o then some (2:Int)
 else
 Va (F122 f.2.1 (0:Int) (36524:Int)) fun p=>
 bif !p then some (11:Int)
 else
 Va
 (bif decide (f.2.2.2.2.1<(0:Int)) then some true
 else some (decide ((↑(Vb h.2.1):Int)<=f.2.2.2.2.1)))
 fun q=>
 bif q then some (9:Int)
 else
 Va (F114 f.2.2.2.2.2.2.2.1 (↑(Vb h.1):Int) (0:Int) (3155932800:Int)) fun m=>
 bif !decide (m=(0:Int)) then some m
 else
 Va
 (run
 (fun i=>
 bif decide (i<l) then
 Va (idx h.2.2.1 i) fun j=>
 Va
 (bif decide (j.2.2.2.1=f.2.2.2.1) then
 bif decide (j.2.1=f.2.1) then some (decide (j.2.2.1=f.2.2.1)) else some false
 else some false)
 fun r=>bif r then some (.inr (.inr (6:Int))) else some (.inl (Vc .i64 (i+(1:Int))))
 else some (.inr (.inl ())))
 (0:Int))
 fun s=>Ve (fun _=>some (0:Int)) (fun k=>some k) s
def F127E:Zm:=ZK 133 Tryz.f133 79 [F121E,F122E,F114E] (hS (hS (hS (.seq (.seq (.reg [(25,Y4)]) .leaf) (hS (.seq (.seq (.reg [(40,Y4)]) .leaf) (hS (hS (.seq (hS (.lp (en [pd 7 Y3] [1,2,5]) [(.exit 0,e0),(.ret,en [pd 4 ZA] [])] (hS (.seq (hS (.seq (.reg [(78,Y4)]) .leaf)) .leaf)))) .leaf))))))))) (.p ZM (.q Y3)) (.pd ZA) (u2 F127)
def F123:(El ZM)->(El Y3)->(El Y3)->(El Y3)->Option (El Y4):=fun h i k l=>
 Va
 (run
 (fun s0=>
 bif decide (s0.2<=i) then
 Va
 (run
 (fun f=>
 bif decide (f.2<i) then
 Va
 (Va (idx h.2.2.2.1 f.2) fun m=>
 bif m.2.2.2.2.1 then Va (idx h.2.2.2.1 f.2) fun n=>some (decide (n.1=s0.1)) else some false)
 fun o=>
 bif o then Va (idx h.2.2.2.1 f.2) fun p=>some (.inl (p.2.2.1,Vc .i64 (f.2+(1:Int))))
 else some (.inl (f.1,Vc .i64 (f.2+(1:Int))))
 else some (.inr f.1))
 ((-1:Int),(0:Int)))
 fun j=>bif decide (j=l) then some (.inr (.inr true)) else some (.inl (j,Vc .i64 (s0.2+(1:Int))))
 else some (.inr (.inl ())))
 (k,(0:Int)))
 fun q=>Ve (fun _=>some false) (fun r=>some r) q
def F123E:Zm:=ZK 183 Tryz.f183 48 [] (hS (.seq (hS (.lp (en [pd 2 Y3,pd 9 Y3] [1,3,4]) [(.exit 0,e0),(.ret,en [pd 8 Y4] [])] (hS (.seq (hS (.seq (hS (.lp (en [pd 10 Y3,pd 11 Y3] [1,2,3,4,9]) [(.exit 2,en [pd 10 Y3] [1,3,4,9])] (hS (.seq (.seq (.reg [(37,Y4)]) .leaf) .leaf)))) .leaf)) .leaf)))) .leaf)) (.p ZM (.p Y3 (.p Y3 (.q Y3)))) (.pd Y4) (u4 F123)
def F124:(El ZM)->(El Y3)->Option (El ZA):=fun i m=>
 Va (idx i.2.2.2.1 m) fun f=>
 Va
 (Va (F122 f.1 (0:Int) (Vc .i64 ((↑(Vb i.2.2.1):Int) - (1:Int)))) fun A=>
 bif !A then some true
 else
 Va (F122 f.2.2.1 (0:Int) (Vc .i64 ((↑(Vb i.2.2.1):Int) - (1:Int)))) fun B=>
 bif !B then some true else some (decide (f.1=f.2.2.1)))
 fun C=>
 bif C then some (9:Int)
 else
 Va (idx i.2.2.1 f.1) fun v=>
 Va (idx i.2.2.1 f.2.2.1) fun y=>
 Va
 (Va (F122 f.2.1 (0:Int) (Vc .i64 ((↑(Vb v.2.2.2.2.2.2.2.1):Int) - (1:Int)))) fun D=>
 bif !D then some true
 else
 Va (F122 f.2.2.2.1 (0:Int) (Vc .i64 ((↑(Vb y.2.2.2.2.2.2.2.1):Int) - (1:Int)))) fun E=>
 some !E)
 fun F=>
 bif F then some (9:Int)
 else
 Va (idx v.2.2.2.2.2.2.2.1 f.2.1) fun G=>
 Va (idx y.2.2.2.2.2.2.2.1 f.2.2.2.1) fun n=>
 bif !decide (G.1=n.1) then some (13:Int)
 else
 Va
 (bif f.2.2.2.2.1 then
 bif !decide (f.2.1=Vc .i64 ((↑(Vb v.2.2.2.2.2.2.2.1):Int) - (1:Int))) then some true
 else some !decide (f.2.2.2.1=(0:Int))
 else some false)
 fun o=>
 bif o then some (19:Int)
 else
 Va
 (run
 (fun j=>
 bif decide (j<m) then
 Va (idx i.2.2.2.1 j) fun l=>
 Va
 (bif f.2.2.2.2.1 then
 bif l.2.2.2.2.1 then
 bif decide (l.1=f.1) then some true else some (decide (l.2.2.1=f.2.2.1))
 else some false
 else some false)
 fun p=>bif p then some (.inr (.inr (19:Int))) else some (.inl (Vc .i64 (j+(1:Int))))
 else some (.inr (.inl ())))
 (0:Int))
 fun q=>
 Ve
 (fun _=>
 Va (bif f.2.2.2.2.1 then Va (F123 i m f.2.2.1 f.1) fun r=>some r else some false) fun s=>
 bif s then some (19:Int)
 else
 Va
 (run
 (fun k=>
 bif decide (k<m) then
 Va (idx i.2.2.2.1 k) fun h=>
 Va
 (bif decide (h.1=f.1) then
 bif decide (h.2.1=f.2.1) then
 bif decide (h.2.2.1=f.2.2.1) then some (decide (h.2.2.2.1=f.2.2.2.1))
 else some false
 else some false
 else some false)
 fun t=>bif t then some (.inr (.inr (6:Int))) else some (.inl (Vc .i64 (k+(1:Int))))
 else some (.inr (.inl ())))
 (0:Int))
 fun u=>Ve (fun _=>some (0:Int)) (fun w=>some w) u)
 (fun x=>some x) q
def F124E:Zm:=ZK 134 Tryz.f134 177 [F122E,F123E] (hS (hS (.seq (.seq (.reg [(41,Y4)]) .leaf) (hS (.seq (.seq (.reg [(71,Y4)]) .leaf) (hS (.seq (.seq (.reg [(99,Y4)]) .leaf) (.seq (hS (.lp (en [pd 8 Y3] [1,2,5]) [(.exit 0,en [] [1,2,5]),(.ret,en [pd 4 ZA] [])] (hS (.seq (hS (.seq (.reg [(129,Y4)]) .leaf)) .leaf)))) (.seq (.seq (.reg [(140,Y4)]) .leaf) (.seq (hS (.lp (en [pd 10 Y3] [1,2,5]) [(.exit 2,e0),(.ret,en [pd 4 ZA] [])] (hS (.seq (hS (.seq (.reg [(176,Y4)]) .leaf)) .leaf)))) .leaf)))))))))) (.p ZM (.q Y3)) (.pd ZA) (u2 F124)
def F118:(El Wq)->(El Y3)->(El Y4)->Option (El RE):=fun V r W=>
 Va
 (run
 (fun s0=>
 bif decide (s0.2<r) then
 Va
 (run
 (fun l=>
 bif decide (l.2.2<r) then
 Va (ZD (decide (Vb l.2.1+Vb [(1099511627776:Int)]<=ZE))) fun _=>
 some (.inl (l.1,l.2.1++[(1099511627776:Int)],Vc .i64 (l.2.2+(1:Int))))
 else some (.inr (l.1,l.2.1)))
 (s0.1,[],(0:Int)))
 fun w=>
 Va (ZD (decide (Vb w.1+Vb [w.2]<=ZE))) fun _=>
 some (.inl (w.1++[w.2],Vc .i64 (s0.2+(1:Int))))
 else some (.inr s0.1))
 ([],(0:Int)))
 fun X=>
 Va
 (run
 (fun i=>
 bif decide (i.2<(↑(Vb V):Int)) then
 Va (idx V i.2) fun q=>
 Va (bif q.2.2.2.1 then some true else some !W) fun Y=>
 bif Y then
 Va (Zo q.1 (Vb i.1)) fun x=>
 Va i.1[x]? fun _=>
 Va (Zo q.1 (Vb i.1)) fun m=>
 Va i.1[m]? fun _=>
 Va (idx i.1 (↑m:Int)) fun y=>
 Va (Zo q.2.1 (Vb y)) fun A=>
 Va (idx i.1 (↑m:Int)) fun B=>
 Va B[A]? fun C=>
 Va (idx i.1 (↑x:Int)) fun D=>
 Va (Zo q.2.1 (Vb D)) fun s=>
 Va (idx i.1 (↑x:Int)) fun t=>
 Va t[s]? fun _=>
 some
 (.inl (Vg i.1 (Vi (↑x:Int)) (Vg t s (Tr.imin C q.2.2.1)),Vc .i64 (i.2+(1:Int))))
 else some (.inl (i.1,Vc .i64 (i.2+(1:Int))))
 else some (.inr i.1))
 (X,(0:Int)))
 fun E=>
 Va
 (run
 (fun j=>
 bif decide (j.2<r) then
 Va
 (run
 (fun h=>
 bif decide (h.2<r) then
 Va
 (run
 (fun f=>
 bif decide (f.2<r) then
 Va (Zo h.2 (Vb f.1)) fun k=>
 Va f.1[k]? fun _=>
 Va (Zo h.2 (Vb f.1)) fun n=>
 Va f.1[n]? fun _=>
 Va (idx f.1 (↑n:Int)) fun F=>
 Va (Zo f.2 (Vb F)) fun G=>
 Va (idx f.1 (↑n:Int)) fun H=>
 Va H[G]? fun I=>
 Va (Zo h.2 (Vb f.1)) fun o=>
 Va f.1[o]? fun _=>
 Va (idx f.1 (↑o:Int)) fun J=>
 Va (Zo j.2 (Vb J)) fun K=>
 Va (idx f.1 (↑o:Int)) fun L=>
 Va L[K]? fun M=>
 Va (Zo j.2 (Vb f.1)) fun p=>
 Va f.1[p]? fun _=>
 Va (idx f.1 (↑p:Int)) fun N=>
 Va (Zo f.2 (Vb N)) fun O=>
 Va (idx f.1 (↑p:Int)) fun P=>
 Va P[O]? fun Q=>
 Va (idx f.1 (↑k:Int)) fun R=>
 Va (Zo f.2 (Vb R)) fun u=>
 Va (idx f.1 (↑k:Int)) fun v=>
 Va v[u]? fun _=>
 some
 (.inl
 (Vg f.1 (Vi (↑k:Int))
 (Vg v u (Tr.imin I (Vc .i64 (M+Q)))),
 Vc .i64 (f.2+(1:Int))))
 else some (.inr f.1))
 (h.1,(0:Int)))
 fun S=>some (.inl (S,Vc .i64 (h.2+(1:Int))))
 else some (.inr h.1))
 (j.1,(0:Int)))
 fun T=>some (.inl (T,Vc .i64 (j.2+(1:Int))))
 else some (.inr j.1))
 (E,(0:Int)))
 fun U=>some U
def F118E:Zm:=ZK 226 Tryz.f226 116 [] (hS (hS (.seq (hS (.lp (en [(7,.rows Y3 false),pd 8 Y3] [0,1,2]) [(.exit 0,en [(7,.rows Y3 false)] [0,1,2])] (hS (.seq (hS (.seq (hS (.lp (en [(7,.rows Y3 false),(9,.own Y3 false),pd 10 Y3] [0,1,2,8]) [(.exit 2,en [(7,.rows Y3 false),(9,.own Y3 false)] [0,1,2,8])] .leaf)) .leaf)) .leaf)))) (.seq (hS (.lp (en [(7,.rows Y3 false),pd 11 Y3] [0,1,2]) [(.exit 4,en [(7,.rows Y3 false)] [1])] (hS (.seq (hS (.seq (.reg [(50,Y4)]) .leaf)) .leaf)))) (.seq (hS (.lp (en [(7,.rows Y3 false),pd 13 Y3] [1]) [(.exit 6,en [(7,.rows Y3 false)] [])] (hS (.seq (hS (.lp (en [(7,.rows Y3 false),pd 14 Y3] [1,13]) [(.exit 8,en [(7,.rows Y3 false)] [1,13])] (hS (.seq (hS (.lp (en [(7,.rows Y3 false),pd 15 Y3] [1,13,14]) [(.exit 10,en [(7,.rows Y3 false)] [1,13,14])] .leaf)) .leaf)))) .leaf)))) .leaf))))) (.p Wq (.p Y3 (.q Y4))) (.pd RE) (u3 F118) (rws:=[173])
def F116:(El Wq)->(El Y3)->Option (El Wq):=fun B l=>
 Va (F118 B l false) fun m=>
 Va (F118 B l true) fun n=>
 Va
 (run
 (fun h=>
 bif decide (h.2<l) then
 Va
 (run
 (fun f=>
 bif decide (f.2<l) then
 Va
 (bif decide (h.2=f.2) then some true
 else Va (idx m h.2) fun C=>Va (idx C f.2) fun D=>some (decide ((14400:Int)<D)))
 fun E=>
 bif E then some (.inl (f.1,Vc .i64 (f.2+(1:Int))))
 else
 Va (idx m h.2) fun F=>
 Va (idx F f.2) fun o=>
 Va (idx n h.2) fun G=>
 Va (idx G f.2) fun i=>
 Va (idx m h.2) fun p=>
 Va (idx p f.2) fun j=>
 Va (ZD (decide (Vb f.1+Vb [(h.2,f.2,o,decide (i=j),())]<=ZE))) fun _=>
 Va
 (Va (idx n h.2) fun q=>
 Va (idx q f.2) fun r=>
 Va (idx m h.2) fun s=>
 Va (idx s f.2) fun t=>
 bif decide (t<r) then
 Va (idx n h.2) fun u=>Va (idx u f.2) fun v=>some (decide (v<=(14400:Int)))
 else some false)
 fun w=>
 bif w then
 Va (idx n h.2) fun x=>
 Va (idx x f.2) fun k=>
 Va
 (ZD
 (decide
 (Vb (f.1++[(h.2,f.2,o,decide (i=j),())])+Vb [(h.2,f.2,k,true,())]<=
 ZE)))
 fun _=>
 some
 (.inl
 (f.1++[(h.2,f.2,o,decide (i=j),())]++[(h.2,f.2,k,true,())],
 Vc .i64 (f.2+(1:Int))))
 else some (.inl (f.1++[(h.2,f.2,o,decide (i=j),())],Vc .i64 (f.2+(1:Int))))
 else some (.inr f.1))
 (h.1,(0:Int)))
 fun y=>some (.inl (y,Vc .i64 (h.2+(1:Int))))
 else some (.inr h.1))
 ([],(0:Int)))
 fun A=>some A
def F116E:Zm:=ZK 184 Tryz.f184 107 [F118E] (hS (hS (hS (.seq (hS (.lp (en [(7,.own ZJ false),pd 8 Y3] [1,5,6]) [(.exit 0,en [(7,.own ZJ false)] [])] (hS (.seq (hS (.lp (en [(7,.own ZJ false),pd 9 Y3] [1,5,6,8]) [(.exit 2,en [(7,.own ZJ false)] [1,5,6,8])] (hS (.seq (.seq (.seq (.reg [(39,Y4)]) .leaf) (hS (.seq (.reg [(92,Y4)]) .leaf))) .leaf)))) .leaf)))) .leaf)))) (.p Wq (.q Y3)) (.pd Wq) (u2 F116)
def F125:(El ZM)->Option (El Y3×El ZA):=fun f=>
 Va
 (run
 (fun s0=>
 bif decide (s0<(↑(Vb f.2.2.2.2.1):Int)) then
 Va (idx f.2.2.2.2.1 s0) fun k=>
 Va
 (Va (F122 k.1 (0:Int) (Vc .i64 ((↑(Vb f.1):Int) - (1:Int)))) fun t=>
 bif !t then some true
 else
 Va (F122 k.2.1 (0:Int) (Vc .i64 ((↑(Vb f.1):Int) - (1:Int)))) fun u=>
 bif !u then some true else some (decide (k.1=k.2.1)))
 fun v=>
 bif v then some (.inr (.inr (s0,(9:Int))))
 else
 Va (F122 k.2.2.1 (1:Int) (14400:Int)) fun w=>
 bif !w then some (.inr (.inr (s0,(2:Int))))
 else
 Va
 (run
 (fun p=>
 bif decide (p<s0) then
 Va (idx f.2.2.2.2.1 p) fun s=>
 Va
 (bif decide (s.1=k.1) then
 bif decide (s.2.1=k.2.1) then some (s.2.2.2.1==k.2.2.2.1) else some false
 else some false)
 fun x=>bif x then some (.inr (.inr (s0,(6:Int)))) else some (.inl (Vc .i64 (p+(1:Int))))
 else some (.inr (.inl ())))
 (0:Int))
 fun y=>Ve (fun _=>some (.inl (Vc .i64 (s0+(1:Int))))) (fun m=>some (.inr (.inr (m.1,m.2)))) y
 else some (.inr (.inl ())))
 (0:Int))
 fun q=>
 Ve
 (fun _=>
 Va (F116 f.2.2.2.2.1 (↑(Vb f.1):Int)) fun l=>
 bif !decide ((↑(Vb l):Int)=(↑(Vb f.2.2.2.2.1):Int)) then some ((0:Int),(18:Int))
 else
 Va
 (run
 (fun h=>
 bif decide (h<(↑(Vb l):Int)) then
 Va (idx l h) fun i=>
 Va (idx f.2.2.2.2.1 h) fun j=>
 bif
 !(decide (i.1=j.1) &&
 (decide (i.2.1=j.2.1) && (decide (i.2.2.1=j.2.2.1) &&i.2.2.2.1==j.2.2.2.1))) then
 some (.inr (.inr ((0:Int),(18:Int))))
 else some (.inl (Vc .i64 (h+(1:Int))))
 else some (.inr (.inl ())))
 (0:Int))
 fun r=>Ve (fun _=>some ((0:Int),(0:Int))) (fun n=>some (n.1,n.2)) r)
 (fun o=>some (o.1,o.2)) q
def F125E:Zm:=Kg 135 Tryz.f135 111 [F122E,F116E] (hS (.seq (hS (.lp (en [pd 4 Y3] [1]) [(.exit 0,en [] [1]),(.ret,en [pd 2 Y3,pd 3 ZA] [])] (hS (.seq (hS (.seq (.seq (.reg [(46,Y4)]) .leaf) (hS (hS (.lp (en [pd 6 Y3] [1,4,5]) [(.exit 2,en [] [1,4]),(.ret,en [pd 2 Y3,pd 3 ZA] [])] (hS (.seq (hS (.seq (.reg [(81,Y4)]) .leaf)) .leaf))))))) .leaf)))) (hS (hS (.seq (hS (.lp (en [pd 9 Y3] [1,8]) [(.exit 4,e0),(.ret,en [pd 2 Y3,pd 3 ZA] [])] .leaf)) .leaf))))) (.q ZM) (.p Y3 (.q ZA)) (u1 F125) (fun z=>(((),()),(z.1,z.2,()))) (fun y=>(y.2.1,y.2.2.1))
def F117:(El K9)->Option (El Y3×El ZA):=fun f=>
 Va
 (Va (F122 f.2.1 (0:Int) (1000000:Int)) fun t=>
 bif !t then some true
 else
 Va (F122 f.2.2.1 (0:Int) (86400:Int)) fun u=>
 bif !u then some true else Va (F122 f.2.2.2.1 (0:Int) (1000000:Int)) fun v=>some !v)
 fun w=>
 bif w then some ((-1:Int),(2:Int))
 else
 bif decide ((16:Int)<(↑(Vb f.1):Int)) then some ((0:Int),(5:Int))
 else
 Va
 (run
 (fun h=>
 bif decide (h<(↑(Vb f.1):Int)) then
 Va (idx f.1 h) fun i=>
 Va (F121 i.1) fun x=>
 bif !x then some (.inr (.inr (h,(12:Int))))
 else
 Va
 (run
 (fun l=>
 bif decide (l<h) then
 Va (idx f.1 l) fun y=>
 bif decide (y.1=i.1) then some (.inr (.inr (h,(6:Int)))) else some (.inl (Vc .i64 (l+(1:Int))))
 else some (.inr (.inl ())))
 (0:Int))
 fun A=>
 Ve
 (fun _=>
 Va
 (Va (F122 i.2.1 (0:Int) (1000000:Int)) fun m=>
 bif !m then some true
 else
 Va (F122 i.2.2.1 (1:Int) (8:Int)) fun n=>
 bif !n then some true
 else
 Va (F122 i.2.2.2.1 (1:Int) (16:Int)) fun o=>
 bif !o then some true
 else
 Va (F122 i.2.2.2.2.1 (0:Int) (86400:Int)) fun p=>
 bif !p then some true else Va (F122 i.2.2.2.2.2.1 (1:Int) (255:Int)) fun q=>some !q)
 fun r=>bif r then some (.inr (.inr (h,(2:Int)))) else some (.inl (Vc .i64 (h+(1:Int)))))
 (fun j=>some (.inr (.inr (j.1,j.2)))) A
 else some (.inr (.inl ())))
 (0:Int))
 fun s=>Ve (fun _=>some ((0:Int),(0:Int))) (fun k=>some (k.1,k.2)) s
def F117E:Zm:=Kg 136 Tryz.f136 88 [F121E,F122E] (hS (.seq (.seq (.reg [(22,Y4)]) .leaf) (hS (.seq (hS (.lp (en [pd 4 Y3] [1]) [(.exit 0,e0),(.ret,en [pd 2 Y3,pd 3 ZA] [])] (hS (.seq (hS (hS (.seq (hS (.lp (en [pd 6 Y3] [1,4,5]) [(.exit 2,en [] [1,4,5]),(.ret,en [pd 2 Y3,pd 3 ZA] [])] .leaf)) (.seq (.reg [(86,Y4)]) .leaf)))) .leaf)))) .leaf)))) (.q K9) (.p Y3 (.q ZA)) (u1 F117) (fun z=>(((),()),(z.1,z.2,()))) (fun y=>(y.2.1,y.2.2.1))
def F115:(El ZM)->Option (El Y3×El Y3×El ZA):=fun f=>
 Va (F128 f.1) fun n=>
 bif !decide (n.2=(0:Int)) then some ((0:Int),n.1,n.2)
 else
 Va (F126 f.2.1) fun o=>
 bif !decide (o.2=(0:Int)) then some ((1:Int),o.1,o.2)
 else
 bif decide ((1024:Int)<(↑(Vb f.2.2.1):Int)) then some ((2:Int),(0:Int),(5:Int))
 else
 Va
 (run
 (fun l=>
 bif decide (l<(↑(Vb f.2.2.1):Int)) then
 Va (F127 f l) fun p=>
 bif !decide (p=(0:Int)) then some (.inr (.inr ((2:Int),l,p))) else some (.inl (Vc .i64 (l+(1:Int))))
 else some (.inr (.inl ())))
 (0:Int))
 fun r=>
 Ve
 (fun _=>
 bif decide ((1024:Int)<(↑(Vb f.2.2.2.1):Int)) then some ((3:Int),(0:Int),(5:Int))
 else
 Va
 (run
 (fun m=>
 bif decide (m<(↑(Vb f.2.2.2.1):Int)) then
 Va (F124 f m) fun q=>
 bif !decide (q=(0:Int)) then some (.inr (.inr ((3:Int),m,q)))
 else some (.inl (Vc .i64 (m+(1:Int))))
 else some (.inr (.inl ())))
 (0:Int))
 fun s=>
 Ve
 (fun _=>
 Va (F125 f) fun h=>
 bif !decide (h.2=(0:Int)) then some ((4:Int),h.1,h.2)
 else
 Va (F117 f.2.2.2.2.2.1) fun i=>
 bif !decide (i.2=(0:Int)) then some ((5:Int),i.1,i.2) else some ((0:Int),(0:Int),(0:Int)))
 (fun j=>some (j.1,j.2.1,j.2.2)) s)
 (fun k=>some (k.1,k.2.1,k.2.2)) r
def F115E:Zm:=Kg 94 Tryz.f94 84 [F128E,F126E,F127E,F124E,F125E,F117E] (hS (hS (hS (hS (hS (hS (.seq (hS (.lp (en [pd 7 Y3] [1]) [(.exit 0,en [] [1]),(.ret,en [pd 2 Y3,pd 3 Y3,pd 4 ZA] [])] .leaf)) (hS (.seq (hS (.lp (en [pd 8 Y3] [1]) [(.exit 2,en [] [1]),(.ret,en [pd 2 Y3,pd 3 Y3,pd 4 ZA] [])] .leaf)) .leaf))))))))) (.q ZM) (.p Y3 (.p Y3 (.q ZA))) (u1 F115) (fun z=>(((),()),(z.1,z.2.1,z.2.2,()))) (fun y=>(y.2.1,y.2.2.1,y.2.2.2.1))
def F120:(El ZM)->Option (El Y4):=fun f=>Va (F115 f) fun h=>some (decide (h.2.2=(0:Int)))
def F120E:Zm:=ZK 44 Tryz.f44 14 [F115E] .leaf (.q ZM) (.pd Y4) (u1 F120)
def F119:(El ZM)->Option (El Y4):=fun f=>
 Va
 (bif decide ((5:Int)<(↑(Vb f.1):Int)) then some true
 else
 bif decide ((7:Int)<(↑(Vb f.2.2.1):Int)) then some true
 else
 bif decide ((30:Int)<(↑(Vb f.2.2.2.1):Int)) then some true
 else some (decide ((60:Int)<(↑(Vb f.2.2.2.2.1):Int))))
 fun i=>
 bif i then some false
 else
 Va
 (run
 (fun h=>
 bif decide (h<(↑(Vb f.2.2.1):Int)) then
 Va (idx f.2.2.1 h) fun j=>
 bif decide ((6:Int)<(↑(Vb j.2.2.2.2.2.2.2.1):Int)) then some (.inr (.inr false))
 else some (.inl (Vc .i64 (h+(1:Int))))
 else some (.inr (.inl ())))
 (0:Int))
 fun k=>Ve (fun _=>Va (F120 f) fun l=>some l) (fun m=>some m) k
def F119E:Zm:=ZK 21 Tryz.f21 43 [F120E] (hS (.seq (.seq (.reg [(25,Y4)]) .leaf) (.seq (hS (.lp (en [pd 3 Y3] [1]) [(.exit 0,en [] [1]),(.ret,en [pd 2 Y4] [])] .leaf)) .leaf))) (.q ZM) (.pd Y4) (u1 F119)
def F131:(El Y3)->(El Y3)->(El Y3)->Option (El Y4):=fun f h i=>Va (bif decide (h<=f) then some (decide (f<=i)) else some false) fun j=>some j
def F131E:Zm:=ZK 95 Tryz.f95 15 [] (hS (.seq (.reg [(6,Y4)]) .leaf)) (.p Y3 (.p Y3 (.q Y3))) (.pd Y4) (u3 F131) (rws:=[47])
def F130:(El Y3)->(El Ki)->Option (El Y4):=fun h f=>
 Va
 (Va (F131 f.1 (0:Int) (Vc .i64 (h - (1:Int)))) fun i=>
 bif i then
 Va (F131 f.2.1 (0:Int) (Vc .i64 (h - (1:Int)))) fun j=>
 bif j then
 Va (F131 f.2.2.1 (0:Int) (3155932800:Int)) fun k=>
 bif k then
 Va (F131 f.2.2.2.2.1 (0:Int) (8:Int)) fun l=>
 bif l then
 Va (F131 f.2.2.2.2.2.1 (0:Int) (86400:Int)) fun m=>
 bif m then
 Va (F131 f.2.2.2.2.2.2.2.2.1 (0:Int) (255:Int)) fun n=>
 bif n then bif f.2.2.2.2.2.2.2.2.2.1 then some !f.2.2.2.1 else some !false else some false
 else some false
 else some false
 else some false
 else some false
 else some false)
 fun o=>some o
def F130E:Zm:=ZK 45 Tryz.f45 46 [F131E] (hS (.seq (.reg [(4,Y4)]) .leaf)) (.p Y3 (.q Ki)) (.pd Y4) (u2 F130) (rws:=[47])
def F129:(El ZM)->(El Ki)->Option (El ZA):=fun f h=>
 Va (F120 f) fun i=>
 bif !i then some (21:Int) else Va (F130 (↑(Vb f.1):Int) h) fun j=>bif !j then some (22:Int) else some (0:Int)
def F129E:Zm:=ZK 22 Tryz.f22 14 [F120E,F130E] .leaf (.p ZM (.q Ki)) (.pd ZA) (u2 F129) (rws:=[47])
def F189:(El ZM)->(El Ki)->Option (El Y4):=fun f h=>
 Va
 (Va (F119 f) fun i=>
 bif i then
 bif decide (h.2.2.2.2.1<=(3:Int)) then Va (F129 f h) fun j=>some (decide (j=(0:Int))) else some false
 else some false)
 fun k=>some k
def F189E:Zm:=ZK 6 Tryz.f6 18 [F119E,F129E] (hS (.seq (.reg [(4,Y4)]) .leaf)) (.p ZM (.q Ki)) (.pd Y4) (u2 F189)
def F77:(El Y9)->Option (El Y4):=fun h=>
 Va
 (run
 (fun s0=>
 bif decide (s0<(↑(Vb h):Int)) then
 Va (idx h s0) fun f=>
 Va (bif decide ((97:Int)<=(↑(Vd f):Int)) then some (decide ((↑(Vd f):Int)<=(122:Int))) else some false)
 fun k=>
 Va
 (bif k then some k
 else
 Va (bif decide ((65:Int)<=(↑(Vd f):Int)) then some (decide ((↑(Vd f):Int)<=(90:Int))) else some false)
 fun l=>
 Va
 (bif l then some l
 else
 Va
 (bif decide ((48:Int)<=(↑(Vd f):Int)) then some (decide ((↑(Vd f):Int)<=(57:Int))) else some false)
 fun m=>some m)
 fun n=>some n)
 fun o=>
 bif o then some (.inl (Vc .i64 (s0+(1:Int))))
 else
 Va
 (bif decide ((↑(Vd f):Int)=(45:Int)) then some (decide ((↑(Vd f):Int)=(45:Int)))
 else
 Va
 (bif decide ((↑(Vd f):Int)=(95:Int)) then some (decide ((↑(Vd f):Int)=(95:Int)))
 else some (decide ((↑(Vd f):Int)=(46:Int))))
 fun p=>some p)
 fun q=>bif q then some (.inl (Vc .i64 (s0+(1:Int)))) else some (.inr (.inr false))
 else some (.inr (.inl ())))
 (0:Int))
 fun r=>
 Ve
 (fun _=>
 Va (bif decide ((0:Int)<(↑(Vb h):Int)) then some (decide ((↑(Vb h):Int)<=(32:Int))) else some false) fun i=>
 some i)
 (fun j=>some j) r
def F77E:Zm:=ZK 137 Tryz.f137 48 [] (hS (.seq (hS (.lp (en [pd 3 Y3] [0]) [(.exit 0,en [] [0]),(.ret,en [pd 2 Y4] [])] (hS (.seq (hS (.seq (.seq (.reg [(14,Y4)]) (.cnd (some ((en [] [0,3,4]),[(.normal,en [pd 14 Y4] [0,3,4])])) .leaf (.seq (.reg [(14,Y4)]) (.cnd (some ((en [] [0,3,4]),[(.normal,en [pd 14 Y4] [0,3,4])])) .leaf (.reg [(14,Y4)]))))) (.cnd none .leaf (.seq (hS (.cnd (some ((en [] [0,3]),[(.normal,en [pd 33 Y4] [0,3])])) .leaf (hS (.cnd (some ((en [] [0,3]),[(.normal,en [pd 33 Y4] [0,3])])) .leaf .leaf)))) .leaf)))) .leaf)))) (.seq (.reg [(2,Y4)]) .leaf))) (.q Y9) (.pd Y4) (u1 F77)
def F186:(El Yy)->Option (El Y3×El ZA):=fun h=>
 bif decide ((64:Int)<(↑(Vb h):Int)) then some ((0:Int),(5:Int))
 else
 Va
 (run
 (fun s0=>
 bif decide (s0.2<(↑(Vb h):Int)) then
 Va (idx h s0.2) fun f=>
 Va (F77 f.1) fun j=>
 bif !j then some (.inr (.inr (s0.2,(12:Int))))
 else
 bif Vf (ZI (Zj Y9) f.1 s0.1) (false) then some (.inr (.inr (s0.2,(6:Int))))
 else
 Va
 (bif decide (f.2.1<(0:Int)) then some true
 else
 bif decide ((16:Int)<=f.2.1) then some true
 else bif decide (f.2.2.2.1<(0:Int)) then some true else some (decide ((3600:Int)<f.2.2.2.1)))
 fun k=>
 bif k then some (.inr (.inr (s0.2,(2:Int))))
 else some (.inl (ZZ (Zj Y9) f.1 true s0.1,Vc .i64 (s0.2+(1:Int))))
 else some (.inr (.inl ())))
 ([],(0:Int)))
 fun l=>Ve (fun _=>some ((0:Int),(0:Int))) (fun i=>some (i.1,i.2)) l
def F186E:Zm:=Kg 96 Tryz.f96 54 [F77E] (hS (hS (hS (.seq (hS (.lp (en [(4,.map Y9 Y4),pd 13 Y3] [11,12]) [(.exit 0,e0),(.ret,en [pd 2 Y3,pd 3 ZA] [])] (hS (hS (.seq (hS (.seq (hS (.cnd none .leaf (hS (.cnd none .leaf (.seq (.reg [(30,Y4)]) .leaf))))) .leaf)) .leaf))))) .leaf)))) (.q Yy) (.p Y3 (.q ZA)) (u1 F186) (fun z=>(((),()),(z.1,z.2,()))) (fun y=>(y.2.1,y.2.2.1))
def F145:(El Y3)->Option (El Y4):=fun f=>Va (bif decide ((0:Int)<=f) then some (decide (f<(8:Int))) else some false) fun h=>some h
def F145E:Zm:=ZK 138 Tryz.f138 9 [] (hS (.seq (.reg [(2,Y4)]) .leaf)) (.q Y3) (.pd Y4) (u1 F145)
def F144:(El Yz)->Option (El Y3×El ZA):=fun h=>
 bif decide ((64:Int)<(↑(Vb h):Int)) then some ((0:Int),(5:Int))
 else
 Va
 (run
 (fun s0=>
 bif decide (s0.2<(↑(Vb h):Int)) then
 Va (idx h s0.2) fun f=>
 Va (F77 f.1) fun j=>
 bif !j then some (.inr (.inr (s0.2,(12:Int))))
 else
 bif Vf (ZI (Zj Y9) f.1 s0.1) (false) then some (.inr (.inr (s0.2,(6:Int))))
 else
 Va (F145 f.2.1) fun k=>
 bif !k then some (.inr (.inr (s0.2,(2:Int))))
 else some (.inl (ZZ (Zj Y9) f.1 true s0.1,Vc .i64 (s0.2+(1:Int))))
 else some (.inr (.inl ())))
 ([],(0:Int)))
 fun l=>Ve (fun _=>some ((0:Int),(0:Int))) (fun i=>some (i.1,i.2)) l
def F144E:Zm:=Kg 97 Tryz.f97 37 [F77E,F145E] (hS (hS (hS (.seq (hS (.lp (en [(4,.map Y9 Y4),pd 13 Y3] [11,12]) [(.exit 0,e0),(.ret,en [pd 2 Y3,pd 3 ZA] [])] .leaf)) .leaf)))) (.q Yz) (.p Y3 (.q ZA)) (u1 F144) (fun z=>(((),()),(z.1,z.2,()))) (fun y=>(y.2.1,y.2.2.1))
def F91:(El Zfl)->Option (El KS):=fun f=>
 Va
 (run
 (fun s0=>
 bif decide (s0.2<(↑(Vb f):Int)) then
 Va (idx f s0.2) fun h=>
 bif !decide (h.2.2.1=(0:Int)) then some (.inr (.inr h)) else some (.inl (s0.1,Vc .i64 (s0.2+(1:Int))))
 else some (.inr (.inl s0.1)))
 (((0:Int),(0:Int),(0:Int),()),(0:Int)))
 fun i=>Ve (fun _=>some ((0:Int),(0:Int),(0:Int),())) (fun j=>some j) i
def F91E:Zm:=ZK 98 Tryz.f98 17 [] (hS (.seq (hS (.lp (en [(2,.var KS (.pd KS)),pd 7 Y3] [5,6]) [(.exit 0,en [(2,.var KS (.pd KS))] []),(.ret,en [(2,.var KS (.pd KS))] [])] .leaf)) .leaf)) (.q Zfl) (.pd KS) (u1 F91)
def F100:(El Y3)->(El Y3)->(El ZA)->Option (El KS):=fun f h i=>some (f,h,i,())
def F100E:Zm:=ZK 99 Tryz.f99 11 [] .leaf (.p Y3 (.p Y3 (.q ZA))) (.pd KS) (u3 F100)
def F7:(El J6)->(El Y3)->(El Y3)->(El Y3)->(El Y3)->Option (El ZA):=fun i h j k l=>
 Va (idx i h) fun f=>
 Va (bif decide (f.1<(0:Int)) then some true else some (decide (j<=f.1))) fun m=>
 bif m then some (9:Int)
 else
 Va
 (bif decide ((0:Int)<h) then Va (idx i (Vc .i64 (h - (1:Int)))) fun n=>some (decide (n.1=f.1))
 else some false)
 fun o=>
 bif o then some (13:Int)
 else
 Va
 (bif decide (f.2.1<k) then some true
 else
 bif decide (f.2.2.1<f.2.1) then some true
 else
 bif decide (l<f.2.2.1) then some true
 else
 bif decide ((0:Int)<h) then
 Va (idx i (Vc .i64 (h - (1:Int)))) fun p=>some (decide (f.2.1<p.2.2.1))
 else some false)
 fun q=>bif q then some (10:Int) else some (0:Int)
def F7E:Zm:=ZK 185 Tryz.f185 70 [] (hS (hS (.seq (.seq (.reg [(24,Y4)]) .leaf) (.seq (.seq (.reg [(37,Y4)]) .leaf) (.seq (.seq (.reg [(69,Y4)]) .leaf) .leaf))))) (.p J6 (.p Y3 (.p Y3 (.p Y3 (.q Y3))))) (.pd ZA) (u5 F7)
def F6:(El J6)->(El Y3)->(El Y3)->(El Y3)->Option (El Y3×El ZA):=fun f k l m=>
 Va (bif decide ((↑(Vb f):Int)<(2:Int)) then some true else some (decide ((32:Int)<(↑(Vb f):Int)))) fun n=>
 bif n then some ((0:Int),(5:Int))
 else
 Va
 (run
 (fun h=>
 bif decide (h<(↑(Vb f):Int)) then
 Va (F7 f h k l m) fun i=>
 bif !decide (i=(0:Int)) then some (.inr (.inr (h,i))) else some (.inl (Vc .i64 (h+(1:Int))))
 else some (.inr (.inl ())))
 (0:Int))
 fun o=>Ve (fun _=>some ((0:Int),(0:Int))) (fun j=>some (j.1,j.2)) o
def F6E:Zm:=Kg 139 Tryz.f139 36 [F7E] (hS (.seq (.seq (.reg [(19,Y4)]) .leaf) (.seq (hS (.lp (en [pd 22 Y3] [0,1,2,3,21]) [(.exit 0,e0),(.ret,en [pd 8 Y3,pd 9 ZA] [])] .leaf)) .leaf))) (.p J6 (.p Y3 (.p Y3 (.q Y3)))) (.p Y3 (.q ZA)) (u4 F6) (fun z=>(((),(),(),(),()),(z.1,z.2,()))) (fun y=>(y.2.1,y.2.2.1))
def F90:(El ZM)->Option (El KS):=fun i=>
 bif decide ((1024:Int)<(↑(Vb i.2.2.1):Int)) then Va (F100 (2:Int) (0:Int) (5:Int)) fun p=>some p
 else
 Va
 (run
 (fun h=>
 bif decide (h.2.2<(↑(Vb i.2.2.1):Int)) then
 Va (idx i.2.2.1 h.2.2) fun f=>
 Va (F77 f.2.2.2.1) fun q=>
 bif !q then Va (F100 (2:Int) h.2.2 (12:Int)) fun r=>some (.inr (.inr r))
 else
 Va (bif decide (f.1<(-1:Int)) then some true else some (decide (f.2.2.1<(0:Int)))) fun s=>
 bif s then Va (F100 (2:Int) h.2.2 (2:Int)) fun t=>some (.inr (.inr t))
 else
 Va (bif decide (f.2.1<(0:Int)) then some true else some (decide ((36524:Int)<f.2.1))) fun u=>
 bif u then Va (F100 (2:Int) h.2.2 (11:Int)) fun v=>some (.inr (.inr v))
 else
 Va
 (bif decide (f.2.2.2.2.1<(0:Int)) then some true
 else some (decide ((↑(Vb i.2.1):Int)<=f.2.2.2.2.1)))
 fun w=>
 bif w then Va (F100 (2:Int) h.2.2 (9:Int)) fun k=>some (.inr (.inr k))
 else
 Va (F6 f.2.2.2.2.2.2.2.1 (↑(Vb i.1):Int) (0:Int) (3155932800:Int)) fun j=>
 bif !decide (j.2=(0:Int)) then Va (F100 (2:Int) h.2.2 j.2) fun l=>some (.inr (.inr l))
 else
 bif Vf (ZI (Zj Gw) (f.2.2.2.1,f.2.1,f.2.2.1,()) h.2.1) (false) then
 Va (F100 (2:Int) h.2.2 (6:Int)) fun m=>some (.inr (.inr m))
 else
 some
 (.inl
 (h.1,ZZ (Zj Gw) (f.2.2.2.1,f.2.1,f.2.2.1,()) true h.2.1,
 Vc .i64 (h.2.2+(1:Int))))
 else some (.inr (.inl h.1)))
 (((0:Int),(0:Int),(0:Int),()),[],(0:Int)))
 fun n=>Ve (fun _=>some ((0:Int),(0:Int),(0:Int),())) (fun o=>some o) n
def F90E:Zm:=ZK 100 Tryz.f100 96 [F100E,F77E,F6E] (hS (hS (hS (.seq (hS (.lp (en [(2,.var KS (.pd KS)),(3,.map Gw Y4),pd 18 Y3] [1,16,17]) [(.exit 0,en [(2,.var KS (.pd KS))] []),(.ret,en [(2,.var KS (.pd KS))] [])] (hS (hS (.seq (hS (.seq (hS (.cnd none .leaf (.seq (.reg [(30,Y4)]) (.cnd none .leaf (.seq (.reg [(41,Y4)]) (.cnd none .leaf (.seq (.reg [(52,Y4)]) .leaf))))))) .leaf)) .leaf))))) .leaf)))) (.q ZM) (.pd KS) (u1 F90)
def F101:(El Y3)->(El Y3)->Option (El Y4):=fun f h=>Va (bif decide ((0:Int)<=f) then some (decide (f<h)) else some false) fun i=>some i
def F101E:Zm:=ZK 140 Tryz.f140 12 [] (hS (.seq (.reg [(4,Y4)]) .leaf)) (.p Y3 (.q Y3)) (.pd Y4) (u2 F101)
def F99:(List (El Y3×El Y3))->(El Y3)->(El Y3)->Option (List (El Y3×El Y3) ×El Y4):=fun f h i=>
 Va
 (run
 (fun s0=>
 bif s0.2 then
 bif decide (s0.1=i) then some (.inr (.inr true))
 else some (.inl (Vf (ZI (Zj Y3) s0.1 f) ((0:Int)),Vk (ZI (Zj Y3) s0.1 f)))
 else some (.inr (.inl ())))
 (Vf (ZI (Zj Y3) h f) ((0:Int)),Vk (ZI (Zj Y3) h f)))
 fun j=>Ve (fun _=>some (f,false)) (fun k=>some (f,k)) j
def F99E:Zm:=Kg 141 Tryz.f141 25 [] (hS (.seq (hS (.lp (en [pd 7 Y3,pd 8 Y4] [0,2]) [(.exit 0,en [] [0]),(.ret,en [pd 6 Y4] [0])] .leaf)) .leaf)) (.cons (.map Y3 Y3) (.p Y3 (.q Y3))) (.q Y4) (u3 F99) (fun z=>((z.1,(),(),()),(z.2,()))) (fun y=>(y.1.1,y.2.1))
def F88:(El ZM)->Option (El KS):=fun i=>
 bif decide ((1024:Int)<(↑(Vb i.2.2.2.1):Int)) then Va (F100 (3:Int) (0:Int) (5:Int)) fun C=>some C
 else
 Va
 (run
 (fun h=>
 bif decide (h.2.2.2.2<(↑(Vb i.2.2.2.1):Int)) then
 Va (idx i.2.2.2.1 h.2.2.2.2) fun f=>
 Va
 (Va (F101 f.1 (↑(Vb i.2.2.1):Int)) fun D=>
 bif !D then some true
 else
 Va (F101 f.2.2.1 (↑(Vb i.2.2.1):Int)) fun E=>
 bif !E then some true else some (decide (f.1=f.2.2.1)))
 fun F=>
 bif F then Va (F100 (3:Int) h.2.2.2.2 (9:Int)) fun G=>some (.inr (.inr G))
 else
 Va (idx i.2.2.1 f.1) fun y=>
 Va (idx i.2.2.1 f.2.2.1) fun B=>
 Va
 (Va (F101 f.2.1 (↑(Vb y.2.2.2.2.2.2.2.1):Int)) fun H=>
 bif !H then some true
 else Va (F101 f.2.2.2.1 (↑(Vb B.2.2.2.2.2.2.2.1):Int)) fun k=>some !k)
 fun l=>
 bif l then Va (F100 (3:Int) h.2.2.2.2 (9:Int)) fun m=>some (.inr (.inr m))
 else
 Va (idx y.2.2.2.2.2.2.2.1 f.2.1) fun n=>
 Va (idx B.2.2.2.2.2.2.2.1 f.2.2.2.1) fun o=>
 bif !decide (n.1=o.1) then Va (F100 (3:Int) h.2.2.2.2 (13:Int)) fun p=>some (.inr (.inr p))
 else
 bif f.2.2.2.2.1 then
 bif !decide (Vc .i64 (f.2.1+(1:Int))=(↑(Vb y.2.2.2.2.2.2.2.1):Int)) then
 Va (F100 (3:Int) h.2.2.2.2 (19:Int)) fun q=>some (.inr (.inr q))
 else
 bif !decide (f.2.2.2.1=(0:Int)) then
 Va (F100 (3:Int) h.2.2.2.2 (19:Int)) fun r=>some (.inr (.inr r))
 else
 bif Vk (ZI (Zj Y3) f.1 h.2.1) then
 Va (F100 (3:Int) h.2.2.2.2 (19:Int)) fun s=>some (.inr (.inr s))
 else
 bif Vf (ZI (Zj Y3) f.2.2.1 h.2.2.1) (false) then
 Va (F100 (3:Int) h.2.2.2.2 (19:Int)) fun t=>some (.inr (.inr t))
 else
 Va (F99 h.2.1 f.2.2.1 f.1) fun j=>
 bif j.2 then Va (F100 (3:Int) h.2.2.2.2 (19:Int)) fun u=>some (.inr (.inr u))
 else
 bif Vf (ZI (Zj Xl) [f.1,f.2.1,f.2.2.1,f.2.2.2.1] h.2.2.2.1) (false) then
 Va (F100 (3:Int) h.2.2.2.2 (6:Int)) fun v=>some (.inr (.inr v))
 else
 bif f.2.2.2.2.1 then
 some
 (.inl
 (h.1,ZZ (Zj Y3) f.1 f.2.2.1 j.1,ZZ (Zj Y3) f.2.2.1 true h.2.2.1,
 ZZ (Zj Xl) [f.1,f.2.1,f.2.2.1,f.2.2.2.1] true h.2.2.2.1,
 Vc .i64 (h.2.2.2.2+(1:Int))))
 else
 some
 (.inl
 (h.1,j.1,h.2.2.1,ZZ (Zj Xl) [f.1,f.2.1,f.2.2.1,f.2.2.2.1] true h.2.2.2.1,
 Vc .i64 (h.2.2.2.2+(1:Int))))
 else
 bif Vf (ZI (Zj Xl) [f.1,f.2.1,f.2.2.1,f.2.2.2.1] h.2.2.2.1) (false) then
 Va (F100 (3:Int) h.2.2.2.2 (6:Int)) fun w=>some (.inr (.inr w))
 else
 bif f.2.2.2.2.1 then
 some
 (.inl
 (h.1,ZZ (Zj Y3) f.1 f.2.2.1 h.2.1,ZZ (Zj Y3) f.2.2.1 true h.2.2.1,
 ZZ (Zj Xl) [f.1,f.2.1,f.2.2.1,f.2.2.2.1] true h.2.2.2.1,
 Vc .i64 (h.2.2.2.2+(1:Int))))
 else
 some
 (.inl
 (h.1,h.2.1,h.2.2.1,ZZ (Zj Xl) [f.1,f.2.1,f.2.2.1,f.2.2.2.1] true h.2.2.2.1,
 Vc .i64 (h.2.2.2.2+(1:Int))))
 else some (.inr (.inl h.1)))
 (((0:Int),(0:Int),(0:Int),()),[],[],[],(0:Int)))
 fun x=>Ve (fun _=>some ((0:Int),(0:Int),(0:Int),())) (fun A=>some A) x
def F88E:Zm:=ZK 101 Tryz.f101 171 [F100E,F101E,F99E] (hS (hS (hS (hS (.seq (hS (.lp (en [(2,.var KS (.pd KS)),(3,.map Y3 Y3),(4,.map Y3 Y4),(5,.map Xl Y4),pd 24 Y3] [1,22,23]) [(.exit 0,en [(2,.var KS (.pd KS))] []),(.ret,en [(2,.var KS (.pd KS))] [])] (hS (hS (.seq (hS (.seq (.seq (.reg [(51,Y4)]) .leaf) (hS (.seq (.seq (.reg [(81,Y4)]) .leaf) .leaf)))) .leaf))))) .leaf))))) (.q ZM) (.pd KS) (u1 F88)
def F113:(El Y3)->(El Y3)->(El Y3)->Option (El Y4):=fun f h i=>Va (bif decide (h<=f) then some (decide (f<=i)) else some false) fun j=>some j
def F113E:Zm:=ZK 142 Tryz.f142 15 [] (hS (.seq (.reg [(6,Y4)]) .leaf)) (.p Y3 (.p Y3 (.q Y3))) (.pd Y4) (u3 F113)
def F109:(El K9)->Option (El Y3×El ZA):=fun i=>
 Va
 (Va (F113 i.2.1 (0:Int) (1000000:Int)) fun o=>
 bif !o then some true
 else
 Va (F113 i.2.2.1 (0:Int) (86400:Int)) fun p=>
 bif !p then some true else Va (F113 i.2.2.2.1 (0:Int) (1000000:Int)) fun q=>some !q)
 fun r=>
 bif r then some ((-1:Int),(2:Int))
 else
 bif decide ((16:Int)<(↑(Vb i.1):Int)) then some ((0:Int),(5:Int))
 else
 Va
 (run
 (fun f=>
 bif decide (f.2<(↑(Vb i.1):Int)) then
 Va (idx i.1 f.2) fun h=>
 Va (F77 h.1) fun s=>
 bif !s then some (.inr (.inr (f.2,(12:Int))))
 else
 bif Vf (ZI (Zj Y9) h.1 f.1) (false) then some (.inr (.inr (f.2,(6:Int))))
 else
 Va
 (Va (F113 h.2.1 (0:Int) (1000000:Int)) fun t=>
 bif !t then some true
 else
 Va (F113 h.2.2.1 (1:Int) (8:Int)) fun u=>
 bif !u then some true
 else
 Va (F113 h.2.2.2.1 (1:Int) (16:Int)) fun v=>
 bif !v then some true
 else
 Va (F113 h.2.2.2.2.1 (0:Int) (86400:Int)) fun k=>
 bif !k then some true else Va (F113 h.2.2.2.2.2.1 (1:Int) (255:Int)) fun l=>some !l)
 fun m=>
 bif m then some (.inr (.inr (f.2,(2:Int))))
 else some (.inl (ZZ (Zj Y9) h.1 true f.1,Vc .i64 (f.2+(1:Int))))
 else some (.inr (.inl ())))
 ([],(0:Int)))
 fun n=>Ve (fun _=>some ((0:Int),(0:Int))) (fun j=>some (j.1,j.2)) n
def F109E:Zm:=Kg 102 Tryz.f102 79 [F77E,F113E] (hS (.seq (.seq (.reg [(22,Y4)]) .leaf) (hS (hS (.seq (hS (.lp (en [(4,.map Y9 Y4),pd 31 Y3] [29,30]) [(.exit 0,e0),(.ret,en [pd 2 Y3,pd 3 ZA] [])] (hS (hS (.seq (hS (hS (hS (.seq (.seq (.reg [(73,Y4)]) .leaf) .leaf)))) .leaf))))) .leaf))))) (.q K9) (.p Y3 (.q ZA)) (u1 F109) (fun z=>(((),()),(z.1,z.2,()))) (fun y=>(y.2.1,y.2.2.1))
def F60:(El Wq)->(El Y3)->Option (El Y3×El ZA):=fun i h=>
 Va
 (run
 (fun s0=>
 bif decide (s0.2<(↑(Vb i):Int)) then
 Va (idx i s0.2) fun f=>
 Va
 (bif decide (f.1<(0:Int)) then some (decide (f.1<(0:Int)))
 else
 Va
 (bif decide (h<=f.1) then some (decide (h<=f.1))
 else
 Va
 (bif decide (f.2.1<(0:Int)) then some (decide (f.2.1<(0:Int)))
 else
 Va (bif decide (h<=f.2.1) then some (decide (h<=f.2.1)) else some (decide (f.1=f.2.1))) fun k=>
 some k)
 fun l=>some l)
 fun m=>some m)
 fun n=>
 bif n then some (.inr (.inr (s0.2,(9:Int))))
 else
 Va
 (bif decide (f.2.2.1<(1:Int)) then some (decide (f.2.2.1<(1:Int)))
 else some (decide ((14400:Int)<f.2.2.1)))
 fun o=>
 bif o then some (.inr (.inr (s0.2,(2:Int))))
 else
 bif Vf (ZI (Zj X6) (f.1,f.2.1,f.2.2.2.1,()) s0.1) (false) then some (.inr (.inr (s0.2,(6:Int))))
 else some (.inl (ZZ (Zj X6) (f.1,f.2.1,f.2.2.2.1,()) true s0.1,Vc .i64 (s0.2+(1:Int))))
 else some (.inr (.inl ())))
 ([],(0:Int)))
 fun p=>Ve (fun _=>some ((0:Int),(0:Int))) (fun j=>some (j.1,j.2)) p
def F60E:Zm:=Kg 186 Tryz.f186 62 [] (hS (hS (.seq (hS (.lp (en [(6,.map X6 Y4),pd 13 Y3] [1,11,12]) [(.exit 0,e0),(.ret,en [pd 4 Y3,pd 5 ZA] [])] (hS (hS (.seq (hS (hS (.seq (.seq (hS (.cnd (some ((en [] [1,6,7,8,9,11,12,13]),[(.normal,en [pd 25 Y4] [1,6,7,8,9,11,12,13])])) .leaf (hS (.cnd (some ((en [] [1,6,7,8,9,11,12,13]),[(.normal,en [pd 25 Y4] [1,6,7,8,9,11,12,13])])) .leaf (hS (.cnd (some ((en [] [1,6,7,8,9,11,12,13]),[(.normal,en [pd 25 Y4] [1,6,7,8,9,11,12,13])])) .leaf (hS (.cnd (some ((en [] [1,6,7,8,9,11,12,13]),[(.normal,en [pd 25 Y4] [1,6,7,8,9,11,12,13])])) .leaf .leaf)))))))) (.cnd none .leaf (.seq (hS (.cnd (some ((en [] [1,6,7,9,11,12,13]),[(.normal,en [pd 46 Y4] [1,6,7,9,11,12,13])])) .leaf .leaf)) .leaf))) .leaf))) .leaf))))) .leaf))) (.p Wq (.q Y3)) (.p Y3 (.q ZA)) (u2 F60) (fun z=>(((),(),()),(z.1,z.2,()))) (fun y=>(y.2.1,y.2.2.1))
def F165:(El Y3)->(El Y3)->Option (El Y4):=fun f h=>Va (bif decide (f<(0:Int)) then some true else some (decide (h<=f))) fun i=>some i
def F165E:Zm:=ZK 264 Tryz.f264 11 [] (hS (.seq (.reg [(3,Y4)]) .leaf)) (.p Y3 (.cons (.ro Y3) .nil)) (.pd Y4) (u2 F165)
def F164:(El Y3)->(El DQ)->(El Y0)->Option (El ZA):=fun f i p=>
 Va (bif decide (f<(0:Int)) then some true else some (decide ((64:Int)<f))) fun q=>
 bif q then some (2:Int)
 else
 bif decide ((4096:Int)<(↑(Vb i):Int)) then some (5:Int)
 else
 Va
 (run
 (fun j=>
 bif decide (j<(↑(Vb i):Int)) then
 Va (idx i j) fun h=>
 Va (F165 h.1 f) fun r=>
 bif r then some (.inr (.inr (9:Int)))
 else
 Va (F165 h.2.1 f) fun s=>
 bif s then some (.inr (.inr (9:Int)))
 else
 Va (bif decide (h.2.2.1<(0:Int)) then some true else some (decide ((1073741824:Int)<h.2.2.1))) fun t=>
 bif t then some (.inr (.inr (2:Int))) else some (.inl (Vc .i64 (j+(1:Int))))
 else some (.inr (.inl ())))
 (0:Int))
 fun u=>
 Ve
 (fun _=>
 Va
 (run
 (fun k=>
 bif decide (k<(↑(Vb p):Int)) then
 Va (idx p k) fun v=>
 Va (F165 v f) fun l=>
 bif l then some (.inr (.inr (9:Int))) else some (.inl (Vc .i64 (k+(1:Int))))
 else some (.inr (.inl ())))
 (0:Int))
 fun m=>Ve (fun _=>some (0:Int)) (fun n=>some n) m)
 (fun o=>some o) u
def F164E:Zm:=ZK 253 Tryz.f253 57 [F165E] (hS (.seq (.seq (.reg [(17,Y4)]) .leaf) (hS (hS (.seq (hS (.lp (en [pd 24 Y3] [2,7,22,23]) [(.exit 0,en [] [2,7]),(.ret,en [pd 6 ZA] [])] (hS (hS (.seq (hS (hS (.seq (.reg [(45,Y4)]) .leaf))) .leaf))))) (.seq (hS (.lp (en [pd 49 Y3] [7,47,48]) [(.exit 2,e0),(.ret,en [pd 6 ZA] [])] .leaf)) .leaf)))))) (.p Y3 (.p DQ (.q Y0))) (.pd ZA) (u3 F164)
def F169:(El DQ)->(El Y4)->Option (List (El Y3×List (El Y1))):=fun i j=>
 Va
 (run
 (fun s0=>
 bif decide (s0.2<(↑(Vb i):Int)) then
 Va (idx i s0.2) fun h=>
 Va (bif j then some (h.2.1,h.1,h.2.2) else some h) fun f=>
 Va (ZD (decide (Vb (Vf (ZI (Zj Y3) f.1 s0.1) [])+Vb [f]<=ZE))) fun _=>
 Va (ZD (Tr.holeK Y3 (some f.1) f.1)) fun _=>
 some (.inl (ZZ (Zj Y3) f.1 (Vf (ZI (Zj Y3) f.1 s0.1) []++[f]) s0.1,Vc .i64 (s0.2+(1:Int))))
 else some (.inr s0.1))
 ([],(0:Int)))
 fun k=>some k
def F169E:Zm:=ZK 254 Tryz.f254 34 [] (hS (hS (.seq (hS (.lp (en [(5,.mrows Y3 Y1),pd 11 Y3] [1,9,10]) [(.exit 0,en [(5,.mrows Y3 Y1)] [])] (hS (hS (.seq (hS (.seq (hS (.cnd (some ((en [] [1,5,9,10,11]),[(.normal,en [(7,.var Y1 (.pd Y1))] [1,5,9,10,11])])) .leaf .leaf)) .leaf)) .leaf))))) .leaf))) (.p DQ (.q Y4)) (.mrows Y3 Y1) (u2 F169) (rws:=[310])
def F167:(El ZbJ)->Option (El Y0):=fun h=>
 Va
 (ZD
 (decide
 ((0:El (Tr.Ty.int .i64))<=(↑(Vb h):Int)/\
 (↑(Vb h):Int)<=(↑(Vb h):Int)/\(↑(Vb h):Int)<=(↑ZE:El (Tr.Ty.int .i64)))))
 fun _=>
 Va
 (run
 (fun f=>
 bif decide (f.2<(↑(Vb h):Int)) then
 Va (idx h f.2) fun j=>
 Va (Zo f.2 (Vb f.1)) fun i=>
 Va f.1[i]? fun _=>some (.inl (Vg f.1 i j.2.1,Vc .i64 (f.2+(1:Int))))
 else some (.inr f.1))
 (Vh (Vi (↑(Vb h):Int)) ((0:Int)),(0:Int)))
 fun k=>some k
def F167E:Zm:=ZK 255 Tryz.f255 23 [] (hS (hS (.seq (hS (.lp (en [(3,.own Y3 false),pd 11 Y3] [9,10]) [(.exit 0,en [(3,.own Y3 false)] [])] .leaf)) .leaf))) (.q ZbJ) (.pd Y0) (u1 F167)
def F168:(El XU)->(El XU)->Option (El Y4):=fun f h=>
 Va
 (bif decide (f.2.1<h.2.1) then some true
 else bif decide (f.2.1=h.2.1) then some (decide (f.2.2.1<h.2.2.1)) else some false)
 fun i=>some i
def F168E:Zm:=ZK 266 Tryz.f266 24 [] (hS (.seq (.reg [(4,Y4)]) .leaf)) (.p XU (.q XU)) (.pd Y4) (u2 F168)
def F72:(Yx)->(El Y3)->(El Y3)->Option (Yx×El Y4):=fun f j k=>
 Va (Zo j (Vb f.2.1)) fun l=>
 Va f.2.1[l]? fun h=>
 Va (Zo k (Vb f.2.1)) fun m=>
 Va f.2.1[m]? fun i=>
 Va (F168 h.1 i.1) fun n=>
 bif n then some (((),f.2.1,f.2.2.1,()),true)
 else
 Va (F168 i.1 h.1) fun o=>
 bif o then some (((),f.2.1,f.2.2.1,()),false) else some (((),f.2.1,f.2.2.1,()),decide (h.2.1<i.2.1))
def F72E:Zm:=Kg 272 Tryz.f272 46 [F168E] .leaf (.cons DJ (.p Y3 (.q Y3))) (.q Y4) (u3 F72) (fun z=>((z.1,(),(),()),(z.2,()))) (fun y=>(y.1.1,y.2.1))
def F74:(Yx)->(El Y3)->(El Y3)->Option (Yx):=fun f j k=>
 Va (Zo k (Vb f.2.1)) fun m=>
 Va f.2.1[m]? fun i=>
 Va (Zo j (Vb f.2.1)) fun n=>
 Va f.2.1[n]? fun o=>
 Va (Zo j (Vb f.2.1)) fun h=>
 Va f.2.1[h]? fun _=>
 Va (Zo k (Vb (Vg f.2.1 h i))) fun l=>
 Va (Vg f.2.1 h i)[l]? fun _=>some ((),Vg (Vg f.2.1 h i) l o,f.2.2.1,())
def F74E:Zm:=Kg 273 Tryz.f273 32 [F168E] .leaf (.cons DJ (.p Y3 (.q Y3))) .nil (u3 F74) (fun z=>((z,(),(),()),())) (fun y=>y.1.1)
def F71:(Yx)->(El XU)->Option (Yx):=fun h j=>
 Va (ZD (decide (Vb h.2.1+Vb [(j,h.2.2.1,())]<=ZE))) fun _=>
 Va
 (run
 (fun f=>
 bif decide ((0:Int)<f.2) then
 Va
 (F72 ((),f.1.2.1,f.1.2.2.1,()) f.2
 (Vc .i64 (Vn (Vc .i64 (f.2 - (1:Int))) (2:Int))))
 fun i=>
 bif i.2 then
 Va
 (F74 ((),i.1.2.1,i.1.2.2.1,()) f.2
 (Vc .i64 (Vn (Vc .i64 (f.2 - (1:Int))) (2:Int))))
 fun k=>some (.inl (((),k.2.1,k.2.2.1,()),Vc .i64 (Vn (Vc .i64 (f.2 - (1:Int))) (2:Int))))
 else some (.inr ((),i.1.2.1,i.1.2.2.1,()))
 else some (.inr ((),f.1.2.1,f.1.2.2.1,())))
 (((),h.2.1++[(j,h.2.2.1,())],Vc .i64 (h.2.2.1+(1:Int)),()),
 Vc .i64 ((↑(Vb (h.2.1++[(j,h.2.2.1,())])):Int) - (1:Int))))
 fun l=>some ((),l.2.1,l.2.2.1,())
def F71E:Zm:=Kg 267 Tryz.f267 54 [F168E,F72E,F74E] (hS (hS (hS (hS (hS (.lp (en [(0,RD),pd 4 Y3] []) [(.exit 0,en [(0,RD)] [])] .leaf)))))) (.cons DJ (.q XU)) .nil (u2 F71) (fun z=>((z,(),()),())) (fun y=>y.1.1)
def F68:(Yx)->Option (Yx×El Y3):=fun f=>some (((),f.2.1,f.2.2.1,()),(↑(Vb f.2.1):Int))
def F68E:Zm:=Kg 277 Tryz.f277 10 [F168E] .leaf (.cons DJ .nil) (.q Y3) (u1 F68) (fun z=>((z.1,()),(z.2,()))) (fun y=>(y.1.1,y.2.1))
def F69:(Yx)->Option (Yx×El XU×El Y4):=fun h=>
 Va (F68 ((),h.2.1,h.2.2.1,())) fun f=>
 bif decide (f.2=(0:Int)) then some (((),f.1.2.1,f.1.2.2.1,()),((0:Int),(0:Int),(0:Int),()),false)
 else Va (Zo (0:Int) (Vb f.1.2.1)) fun i=>Va f.1.2.1[i]? fun j=>some (((),f.1.2.1,f.1.2.2.1,()),j.1,true)
def F69E:Zm:=Kg 274 Tryz.f274 16 [F168E,F68E] .leaf (.cons DJ .nil) (.p XU (.q Y4)) (u1 F69) (fun z=>((z.1,()),(z.2.1,z.2.2,()))) (fun y=>(y.1.1,y.2.1,y.2.2.1))
def F73:(Yx)->Option (Yx):=fun k=>
 Va
 (run
 (fun s0=>
 bif decide ((↑(Vb s0.1.2.1):Int)<=Vc .i64 (Vc .i64 ((2:Int) *s0.2)+(1:Int))) then
 some (.inr ((),s0.1.2.1,s0.1.2.2.1,()))
 else
 bif
 decide
 (Vc .i64 (Vc .i64 (Vc .i64 ((2:Int) *s0.2)+(1:Int))+(1:Int))<
 (↑(Vb s0.1.2.1):Int)) then
 Va
 (F72 ((),s0.1.2.1,s0.1.2.2.1,())
 (Vc .i64 (Vc .i64 (Vc .i64 ((2:Int) *s0.2)+(1:Int))+(1:Int)))
 (Vc .i64 (Vc .i64 ((2:Int) *s0.2)+(1:Int))))
 fun i=>
 Va
 (bif i.2 then some (Vc .i64 (Vc .i64 (Vc .i64 ((2:Int) *s0.2)+(1:Int))+(1:Int)))
 else some (Vc .i64 (Vc .i64 ((2:Int) *s0.2)+(1:Int))))
 fun j=>
 Va (F72 ((),i.1.2.1,i.1.2.2.1,()) j s0.2) fun f=>
 bif !f.2 then some (.inr ((),f.1.2.1,f.1.2.2.1,()))
 else Va (F74 ((),f.1.2.1,f.1.2.2.1,()) s0.2 j) fun l=>some (.inl (((),l.2.1,l.2.2.1,()),j))
 else
 Va
 (F72 ((),s0.1.2.1,s0.1.2.2.1,()) (Vc .i64 (Vc .i64 ((2:Int) *s0.2)+(1:Int))) s0.2)
 fun h=>
 bif !h.2 then some (.inr ((),h.1.2.1,h.1.2.2.1,()))
 else
 Va
 (F74 ((),h.1.2.1,h.1.2.2.1,()) s0.2
 (Vc .i64 (Vc .i64 ((2:Int) *s0.2)+(1:Int))))
 fun m=>some (.inl (((),m.2.1,m.2.2.1,()),Vc .i64 (Vc .i64 ((2:Int) *s0.2)+(1:Int)))))
 (((),k.2.1,k.2.2.1,()),(0:Int)))
 fun n=>some ((),n.2.1,n.2.2.1,())
def F73E:Zm:=Kg 275 Tryz.f275 41 [F168E,F72E,F74E] (hS (.lp (en [(0,RD),pd 2 Y3] []) [(.ret,en [(0,RD)] [])] (hS (hS (.seq (hS (.cnd (some ((en [] [0,2]),[(.normal,en [pd 3 Y3] [0,2])])) .leaf .leaf)) .leaf))))) (.cons DJ .nil) .nil (u1 F73) (fun z=>((z,()),())) (fun y=>y.1.1)
def F70:(Yx)->Option (Yx×El XU×El Y4):=fun i=>
 Va (F69 ((),i.2.1,i.2.2.1,())) fun f=>
 bif !f.2.2 then some (((),f.1.2.1,f.1.2.2.1,()),f.2.1,false)
 else
 Va (F74 ((),f.1.2.1,f.1.2.2.1,()) (0:Int) (Vc .i64 ((↑(Vb f.1.2.1):Int) - (1:Int))))
 fun h=>
 Va (sliceB (Vb h.2.1) (Vb h.2.1) none (some (Vc .i64 ((↑(Vb f.1.2.1):Int) - (1:Int)))))
 fun k=>
 Va (F73 ((),Vj k.2 h.2.1,h.2.2.1,())) fun j=>some (((),j.2.1,j.2.2.1,()),f.2.1,true)
def F70E:Zm:=Kg 268 Tryz.f268 36 [F168E,F74E,F69E,F73E] .leaf (.cons DJ .nil) (.p XU (.q Y4)) (u1 F70) (fun z=>((z.1,()),(z.2.1,z.2.2,()))) (fun y=>(y.1.1,y.2.1,y.2.2.1))
def F76:(Unit)->Option (Yx):=fun _=>some ((),[],(0:Int),())
def F76E:Zm:=Kg 265 Tryz.f265 8 [F168E] .leaf (.cons (.fn 266 .nil) .nil) (.cons DJ .nil) (u1 F76) (fun z=>(((),()),(z,()))) (fun y=>y.2.1) (fns:=[266])
def F166:(El Y3)->(List (El Y3×List (El Y1)))->(El Y3)->Option (List (El Y3×List (El Y1)) ×El ZbJ):=fun m p y=>
 Va (ZD (decide ((0:El (Tr.Ty.int .i64))<=m/\m<=m/\m<=(↑ZE:El (Tr.Ty.int .i64))))) fun _=>
 Va
 (run
 (fun k=>
 bif decide (k.2<(↑(Vb (Vh (Vi m) (((0:Int),(0:Int),(0:Int),())))):Int)) then
 Va (Zo k.2 (Vb k.1)) fun v=>
 Va k.1[v]? fun _=>some (.inl (Vg k.1 v (k.2,(-1:Int),(-1:Int),()),Vc .i64 (k.2+(1:Int))))
 else some (.inr k.1))
 (Vh (Vi m) (((0:Int),(0:Int),(0:Int),())),(0:Int)))
 fun A=>
 Va (F76 ()) fun w=>
 Va (F71 ((),w.2.1,w.2.2.1,()) (y,(0:Int),(0:Int),())) fun x=>
 Va
 (run
 (fun i=>
 Va (F70 ((),i.2.2.1,i.2.2.2.1,())) fun h=>
 bif !h.2.2 then some (.inr i.1)
 else
 Va (Zo h.2.1.1 (Vb i.1)) fun B=>
 Va i.1[B]? fun q=>
 bif decide ((0:Int)<=q.2.2.1) then some (.inl (i.1,(),h.1.2.1,h.1.2.2.1,()))
 else
 Va (Zo h.2.1.1 (Vb i.1)) fun j=>
 Va i.1[j]? fun _=>
 Va
 (run
 (fun f=>
 bif decide (f.2<(↑(Vb (Vf (ZI (Zj Y3) h.2.1.1 p) [])):Int)) then
 Va (Zo f.2 (Vb (Vf (ZI (Zj Y3) h.2.1.1 p) []))) fun r=>
 Va (Vf (ZI (Zj Y3) h.2.1.1 p) [])[r]? fun l=>
 Va (Zo l.2.1 (Vb (Vg i.1 j h.2.1))) fun s=>
 Va (Vg i.1 j h.2.1)[s]? fun t=>
 bif decide (t.2.2.1<(0:Int)) then
 Va
 (F71 ((),f.1.2.1,f.1.2.2.1,())
 (l.2.1,Vc .i64 (h.2.1.2.1+l.2.2.1),
 Vc .i64 (h.2.1.2.2.1+(1:Int)),()))
 fun n=>some (.inl (((),n.2.1,n.2.2.1,()),Vc .i64 (f.2+(1:Int))))
 else some (.inl (((),f.1.2.1,f.1.2.2.1,()),Vc .i64 (f.2+(1:Int))))
 else some (.inr ((),f.1.2.1,f.1.2.2.1,())))
 (((),h.1.2.1,h.1.2.2.1,()),(0:Int)))
 fun o=>some (.inl (Vg i.1 j h.2.1,(),o.2.1,o.2.2.1,())))
 (A,(),x.2.1,x.2.2.1,()))
 fun u=>some (p,u)
def F166E:Zm:=Kg 256 Tryz.f256 82 [F76E,F168E,F71E,F70E] (hS (hS (.seq (hS (.lp (en [(7,.own XU false),pd 18 Y3] [1,2,17]) [(.exit 0,en [(7,.own XU false)] [1,2])] .leaf)) (hS (hS (.lp (en [(7,.own XU false),(9,RD)] [1]) [(.ret,en [(6,.own XU false)] [1])] (hS (hS (hS (hS (hS (.lp (en [(9,RD),pd 57 Y3] [1,7,10,55,56]) [(.exit 4,en [(9,RD)] [1,7])] .leaf)))))))))))) (.p Y3 (.cons (.mrows Y3 Y1) (.q Y3))) (.q ZbJ) (u3 F166) (fun z=>(((),z.1,(),()),(z.2,()))) (fun y=>(y.1.2.1,y.2.1))
def F163:(El Y3)->(El DQ)->Option (El RE×El ZA):=fun h i=>
 Va (F164 h i []) fun j=>
 bif !decide (j=(0:Int)) then some ([],j)
 else
 Va (F169 i false) fun m=>
 Va (ZD (decide ((0:El (Tr.Ty.int .i64))<=h/\h<=h/\h<=(↑ZE:El (Tr.Ty.int .i64))))) fun _=>
 Va
 (run
 (fun f=>
 bif decide (f.2.2<(↑(Vb (Vh (Vi h) (([]:List (El Y3))))):Int)) then
 Va (F166 h f.1 f.2.2) fun k=>
 Va (F167 k.2) fun n=>
 Va (Zo f.2.2 (Vb f.2.1)) fun l=>
 Va f.2.1[l]? fun _=>some (.inl (k.1,Vg f.2.1 l n,Vc .i64 (f.2.2+(1:Int))))
 else some (.inr f.2.1))
 (m,Vh (Vi h) (([]:List (El Y3))),(0:Int)))
 fun o=>some (o,(0:Int))
def F163E:Zm:=Kg 247 Tryz.f247 35 [F164E,F169E,F167E,F166E] (hS (hS (hS (hS (hS (.seq (hS (.lp (en [(7,.mrows Y3 Y1),(8,.own Y0 false),pd 22 Y3] [0,21]) [(.exit 0,en [(8,.own Y0 false)] [])] .leaf)) .leaf)))))) (.p Y3 (.q DQ)) (.p RE (.q ZA)) (u2 F163) (fun z=>(((),(),()),(z.1,z.2,()))) (fun y=>(y.2.1,y.2.2.1))
def F59:(El Wq)->(El Y3)->(El Y4)->Option (El RE):=fun m o p=>
 Va
 (run
 (fun s0=>
 bif decide (s0.2<(↑(Vb m):Int)) then
 Va (idx m s0.2) fun h=>
 Va (bif p then some !h.2.2.2.1 else some false) fun q=>
 bif q then some (.inl (s0.1,Vc .i64 (s0.2+(1:Int))))
 else
 Va
 (bif !Vk (ZI (Zj X6) (h.1,h.2.1,false,()) s0.1) then some true
 else some (decide (h.2.2.1<Vf (ZI (Zj X6) (h.1,h.2.1,false,()) s0.1) ((0:Int)))))
 fun r=>
 bif r then some (.inl (ZZ (Zj X6) (h.1,h.2.1,false,()) h.2.2.1 s0.1,Vc .i64 (s0.2+(1:Int))))
 else some (.inl (s0.1,Vc .i64 (s0.2+(1:Int))))
 else some (.inr s0.1))
 ([],(0:Int)))
 fun l=>
 Va
 (ZD
 (decide ((0:El (Tr.Ty.int .i64))<=(0:Int)/\(0:Int)<=(↑(Vb l):Int)/\(↑(Vb l):Int)<=(↑ZE:El (Tr.Ty.int .i64)))))
 fun _=>
 Tr.drun (fun f=>bif Vm f.2 then(1:Nat) else Vb f.2)
 (fun f n=>
 bif Vm f.2 then some (.inr f.1)
 else
 Va f.2[n]? fun i=>
 Va (ZD (decide (Vb f.1+Vb [(i.1.1,i.1.2.1,i.2,())]<=ZE))) fun _=>
 some (.inl (f.1++[(i.1.1,i.1.2.1,i.2,())],List.eraseIdx f.2 n)))
 (fun j=>Va (F163 o j) fun k=>some k.1) (Vh (Vi (0:Int)) (((0:Int),(0:Int),(0:Int),())),l)
def F59E:Zm:=ZK 227 Tryz.f227 81 [F163E] (hS (hS (.seq (hS (.lp (en [(7,.map X6 Y3),pd 21 Y3] [1,2,19,20]) [(.exit 0,en [(7,.map X6 Y3)] [1])] (hS (hS (.seq (hS (.seq (.seq (.reg [(30,Y4)]) .leaf) (hS (hS (.seq (.reg [(49,Y4)]) .leaf))))) .leaf))))) (hS (.seq (hS (.lpd 59 (en [(13,.own Y1 false),(59,.it X6 Y3)] [1]) [(.exit 2,en [(13,.own Y1 false)] [1])] .leaf)) .leaf))))) (.p Wq (.p Y3 (.q Y4))) (.pd RE) (u3 F59)
def F9:(El Y0)->Option (El Y3):=fun f=>
 Va
 (run
 (fun s0=>
 bif decide (s0<(↑(Vb f):Int)) then
 Va (idx f s0) fun h=>
 bif !decide (h=(0:Int)) then some (.inr (.inr h)) else some (.inl (Vc .i64 (s0+(1:Int))))
 else some (.inr (.inl ())))
 (0:Int))
 fun i=>Ve (fun _=>some (0:Int)) (fun j=>some j) i
def F9E:Zm:=ZK 231 Tryz.f231 18 [] (hS (hS (.seq (hS (.lp (en [pd 8 Y3] [3,6,7]) [(.exit 0,en [] [3]),(.ret,en [pd 2 Y3] [])] .leaf)) .leaf))) (.q Y0) (.pd Y3) (u1 F9)
def F10:(El Y3)->Option (El Y4):=fun f=>some !decide (f=f)
def F10E:Zm:=ZK 236 Tryz.f236 6 [] .leaf (.q Y3) (.pd Y4) (u1 F10)
def F8:(El Y3)->(El Y3)->Option (El Y3):=fun f h=>
 Va (F10 f) fun j=>
 Va (F10 h) fun i=>
 bif j then bif i then some (0:Int) else some (-1:Int)
 else bif i then some (1:Int) else bif decide (f<h) then some (-1:Int) else bif decide (h<f) then some (1:Int) else some (0:Int)
def F8E:Zm:=ZK 232 Tryz.f232 20 [F10E] .leaf (.p Y3 (.q Y3)) (.pd Y3) (u2 F8)
def F58:(El ZJ)->(El ZJ)->Option (El Y3):=fun f h=>
 Va (F8 f.1 h.1) fun i=>
 Va (F8 f.2.1 h.2.1) fun j=>
 Va (F8 f.2.2.1 h.2.2.1) fun k=>Va (F9 [i,j,k]) fun l=>some l
def F58S:Tr.Spec:= {args:=(.cons (.pd ZJ) (.cons (.pd ZJ) .nil)),res:=(.cons (.pd Y3) .nil),fns:=[],α:=El Y3,f:=fun x=>F58 x.1 x.2.1,unp:=fun z=>(((),(),()),(z,()))}
theorem F58_ok:ZX Tryz.prog 230 F58S:=XG (rws:=[]) (zxs:=[]) (nt:=22) (m:=[(231,[F9E.S]),(232,[F8E.S])]) (fn:=Tryz.f230) (hint:=.leaf) (pack:=fun y=>y.2.1) Xr tab_ok ⟨⟨F9E.ok,trivial⟩,⟨F8E.ok,trivial⟩,trivial⟩ fun x z h=>.trans (by kernel_rfl) h
def F58E:Zm:=⟨230,F58S,F58_ok⟩
def F175(f:List (El ZJ))(_:Unit):Option (List (El ZJ)):=Tr.sortF F58 f
def F175S:Tr.Spec:= {args:=(.cons (.own ZJ true) (.cons (.fn 230 .nil) .nil)),res:=.nil,fns:=[230],α:=List (El ZJ),f:=fun x=>F175 x.1 x.2.1,unp:=fun z=>((z,(),()),())}
theorem F175_ok:ZX Tryz.prog 229 F175S:=Tr.sortFunc_ok (ρ:=Tryz.sort229_ren) Tryz.sort229 rfl Tryz.isAgg77 Tryz.sizeOf77 F58_ok
def F175E:Zm:=⟨229,F175S,F175_ok⟩
def F57:(El Y3)->(El Y3)->(El Y3)->(El Y4)->(List (El ZJ))->Option (List (El ZJ)):=fun i j f k h=>
 Va (bif decide ((0:Int)<f) then some (decide (f<=(14400:Int))) else some false) fun l=>
 bif l then Va (ZD (decide (Vb h+Vb [(i,j,f,k,())]<=ZE))) fun _=>some (h++[(i,j,f,k,())]) else some h
def F57E:Zm:=Kg 228 Tryz.f228 23 [] (.seq (.reg [(14,Y4)]) .leaf) (.p Y3 (.p Y3 (.p Y3 (.p Y4 (.cons (.var Wq (.own ZJ false)) .nil))))) .nil (u5 F57) (fun z=>(((),(),(),(),z,()),())) (fun y=>y.1.2.2.2.2.1)
def F56:(El Wq)->(El Y3)->Option (El Wq):=fun n o=>
 Va (F59 n o false) fun p=>
 Va (F59 n o true) fun s=>
 Va
 (run
 (fun h=>
 bif decide (h.2<(↑(Vb p):Int)) then
 Va (idx p h.2) fun q=>
 Va
 (run
 (fun f=>
 bif decide (f.2<(↑(Vb q):Int)) then
 Va (idx q f.2) fun l=>
 bif decide (h.2=f.2) then some (.inl (f.1,Vc .i64 (f.2+(1:Int))))
 else
 Va (idx s h.2) fun t=>
 Va (idx t f.2) fun m=>
 Va (F57 h.2 f.2 l (decide (m=l)) f.1) fun r=>
 bif !decide (m=l) then
 Va (F57 h.2 f.2 m true r) fun u=>some (.inl (u,Vc .i64 (f.2+(1:Int))))
 else some (.inl (r,Vc .i64 (f.2+(1:Int))))
 else some (.inr f.1))
 (h.1,(0:Int)))
 fun i=>some (.inl (i,Vc .i64 (h.2+(1:Int))))
 else some (.inr h.1))
 ([],(0:Int)))
 fun j=>Va (F175 j ()) fun k=>some k
def F56E:Zm:=ZK 187 Tryz.f187 66 [F59E,F57E,F175E,F58E] (hS (hS (hS (hS (.seq (hS (.lp ⟨[(7,.var Wq (.own ZJ false)),pd 22 Y3],[(8,228,[7])],[5,6,21],[],[],[]⟩ [(.exit 0,en [(7,.var Wq (.own ZJ false))] [])] (hS (hS (.seq (hS (hS (.lp ⟨[(7,.var Wq (.own ZJ false)),pd 30 Y3],[(8,228,[7])],[5,6,9,21,22,28,29],[],[],[]⟩ [(.exit 2,⟨[(7,.var Wq (.own ZJ false))],[(8,228,[7])],[5,6,21,22],[],[],[]⟩)] .leaf))) .leaf))))) .leaf))))) (.p Wq (.q Y3)) (.pd Wq) (u2 F56)
def F55:(El Wq)->(El Y3)->Option (El Y4):=fun f k=>
 bif decide ((64:Int)<k) then some false
 else
 Va (F60 f k) fun m=>
 bif !decide (m.2=(0:Int)) then some false
 else
 Va (F56 f (Tr.imax k (0:Int))) fun l=>
 bif !decide ((↑(Vb l):Int)=(↑(Vb f):Int)) then some false
 else
 Va
 (run
 (fun h=>
 bif decide (h<(↑(Vb l):Int)) then
 Va (idx l h) fun i=>
 Va (idx f h) fun j=>
 bif
 !(decide (i.1=j.1) &&
 (decide (i.2.1=j.2.1) && (decide (i.2.2.1=j.2.2.1) &&i.2.2.2.1==j.2.2.2.1))) then
 some (.inr (.inr false))
 else some (.inl (Vc .i64 (h+(1:Int))))
 else some (.inr (.inl ())))
 (0:Int))
 fun n=>Ve (fun _=>some true) (fun o=>some o) n
def F55E:Zm:=ZK 143 Tryz.f143 43 [F60E,F56E] (hS (hS (hS (hS (hS (.seq (hS (.lp (en [pd 30 Y3] [0,7,29]) [(.exit 0,e0),(.ret,en [pd 4 Y4] [])] .leaf)) .leaf)))))) (.p Wq (.q Y3)) (.pd Y4) (u2 F55)
def F89:(El ZM)->Option (El KS):=fun h=>
 Va
 (run
 (fun s0=>
 bif decide (s0.2.2<(↑(Vb h.2.2.2.2.1):Int)) then
 Va (idx h.2.2.2.2.1 s0.2.2) fun f=>
 Va
 (Va (F101 f.1 (↑(Vb h.1):Int)) fun l=>
 bif !l then some true
 else Va (F101 f.2.1 (↑(Vb h.1):Int)) fun m=>bif !m then some true else some (decide (f.1=f.2.1)))
 fun n=>
 bif n then Va (F100 (4:Int) s0.2.2 (9:Int)) fun o=>some (.inr (.inr o))
 else
 Va (bif decide (f.2.2.1<(1:Int)) then some true else some (decide ((14400:Int)<f.2.2.1))) fun p=>
 bif p then Va (F100 (4:Int) s0.2.2 (2:Int)) fun q=>some (.inr (.inr q))
 else
 bif Vf (ZI (Zj ZJ) (f.1,f.2.1,(0:Int),f.2.2.2.1,()) s0.2.1) (false) then
 Va (F100 (4:Int) s0.2.2 (6:Int)) fun r=>some (.inr (.inr r))
 else
 some
 (.inl
 (s0.1,ZZ (Zj ZJ) (f.1,f.2.1,(0:Int),f.2.2.2.1,()) true s0.2.1,Vc .i64 (s0.2.2+(1:Int))))
 else some (.inr (.inl s0.1)))
 (((0:Int),(0:Int),(0:Int),()),[],(0:Int)))
 fun s=>
 Ve
 (fun _=>
 Va (F55 h.2.2.2.2.1 (↑(Vb h.1):Int)) fun i=>
 bif !i then Va (F100 (4:Int) (0:Int) (18:Int)) fun j=>some j else some ((0:Int),(0:Int),(0:Int),()))
 (fun k=>some k) s
def F89E:Zm:=ZK 103 Tryz.f103 78 [F100E,F101E,F55E] (hS (hS (.seq (hS (.lp (en [(2,.var KS (.pd KS)),(3,.map ZJ Y4),pd 11 Y3] [1,9,10]) [(.exit 0,en [(2,.var KS (.pd KS))] [1]),(.ret,en [(2,.var KS (.pd KS))] [])] (hS (hS (.seq (hS (hS (.seq (.seq (.reg [(23,Y4)]) (.cnd none .leaf (.seq (.reg [(49,Y4)]) .leaf))) .leaf))) .leaf))))) .leaf))) (.q ZM) (.pd KS) (u1 F89)
def F86:(El ZM)->Option (El Y3×El Y3×El ZA):=fun h=>
 Va (F186 h.1) fun l=>
 Va (F144 h.2.1) fun m=>
 Va (F100 (0:Int) l.1 l.2) fun r=>
 Va (F100 (1:Int) m.1 m.2) fun s=>
 Va (F91 [r,s]) fun n=>
 Va (bif decide (n.2.2.1=(0:Int)) then Va (F90 h) fun t=>some t else some n) fun o=>
 Va (bif decide (o.2.2.1=(0:Int)) then Va (F88 h) fun u=>some u else some o) fun p=>
 Va
 (bif decide (p.2.2.1=(0:Int)) then
 Va (F109 h.2.2.2.2.2.1) fun q=>
 Va (F89 h) fun i=>Va (F100 (5:Int) q.1 q.2) fun j=>Va (F91 [i,j]) fun k=>some k
 else some p)
 fun f=>some (f.1,f.2.1,f.2.2.1)
def F86E:Zm:=Kg 46 Tryz.f46 64 [F186E,F144E,F91E,F100E,F90E,F88E,F109E,F89E] (hS (hS (hS (hS (.seq (hS (.cnd (some ((en [] [1]),[(.normal,en [(9,.var KS (.pd KS))] [1])])) .leaf .leaf)) (.seq (hS (.cnd (some ((en [] [1]),[(.normal,en [(9,.var KS (.pd KS))] [1])])) .leaf .leaf)) (.seq (hS (.cnd (some (e0,[(.normal,en [(9,.var KS (.pd KS))] [])])) .leaf .leaf)) .leaf))))))) (.q ZM) (.p Y3 (.p Y3 (.q ZA))) (u1 F86) (fun z=>(((),()),(z.1,z.2.1,z.2.2,()))) (fun y=>(y.2.1,y.2.2.1,y.2.2.2.1))
def F50:(El Y3)->(El Y3)->(El Y3)->Option (El Y4):=fun f h i=>Va (bif decide (h<=f) then some (decide (f<=i)) else some false) fun j=>some j
def F50E:Zm:=ZK 47 Tryz.f47 15 [] (hS (.seq (.reg [(6,Y4)]) .leaf)) (.p Y3 (.p Y3 (.q Y3))) (.pd Y4) (u3 F50)
def F31:(El ZM)->(El Ki)->Option (El ZA):=fun h f=>
 Va (F86 h) fun i=>
 bif !decide (i.2.2=(0:Int)) then some (21:Int)
 else
 Va
 (Va (F50 f.1 (0:Int) (Vc .i64 ((↑(Vb h.1):Int) - (1:Int)))) fun j=>
 bif !j then some true
 else
 Va (F50 f.2.1 (0:Int) (Vc .i64 ((↑(Vb h.1):Int) - (1:Int)))) fun k=>
 bif !k then some true
 else
 Va (F50 f.2.2.1 (0:Int) (3155932800:Int)) fun l=>
 bif !l then some true
 else
 Va (F50 f.2.2.2.2.1 (0:Int) (8:Int)) fun m=>
 bif !m then some true
 else
 Va (F50 f.2.2.2.2.2.1 (0:Int) (86400:Int)) fun n=>
 bif !n then some true
 else
 Va (F50 f.2.2.2.2.2.2.2.2.1 (0:Int) (255:Int)) fun o=>
 bif !o then some true else bif f.2.2.2.2.2.2.2.2.2.1 then some f.2.2.2.1 else some false)
 fun p=>bif p then some (22:Int) else some (0:Int)
def F31E:Zm:=ZK 24 Tryz.f24 65 [F86E,F50E] (hS (hS (hS (hS (.seq (.seq (.reg [(64,Y4)]) .leaf) .leaf))))) (.p ZM (.q Ki)) (.pd ZA) (u2 F31)
def F98:(El Yy)->Option (El Yy):=fun f=>
 Va (ZD (decide (Vb ([]:List Unit)+Vb f<=ZE))) fun _=>
 Va (Zo (↑(Vb ([]++f)):Int) (Vb ([]++f)+(1:Nat))) fun h=>
 Va (sliceB (Vb ([]++f)) h none (some (↑(Vb ([]++f)):Int))) fun i=>some (Vj i.2 (Vl (0:Nat) ([]++f)))
def F98E:Zm:=ZK 48 Tryz.f48 13 [] .leaf (.q Yy) (.pd Yy) (u1 F98)
def F96:(El Yz)->Option (El Yz):=fun f=>
 Va (ZD (decide (Vb ([]:List Unit)+Vb f<=ZE))) fun _=>
 Va (Zo (↑(Vb ([]++f)):Int) (Vb ([]++f)+(1:Nat))) fun h=>
 Va (sliceB (Vb ([]++f)) h none (some (↑(Vb ([]++f)):Int))) fun i=>some (Vj i.2 (Vl (0:Nat) ([]++f)))
def F96E:Zm:=ZK 49 Tryz.f49 13 [] .leaf (.q Yz) (.pd Yz) (u1 F96)
def F97:(El Y24)->Option (List (El Hq)):=fun f=>
 Va (ZD (decide (Vb ([]:List Unit)+Vb f<=ZE))) fun _=>
 Va (Zo (↑(Vb ([]++f)):Int) (Vb ([]++f)+(1:Nat))) fun h=>
 Va (sliceB (Vb ([]++f)) h none (some (↑(Vb ([]++f)):Int))) fun i=>some (Vj i.2 ([]++f))
def F97E:Zm:=ZK 50 Tryz.f50 13 [] .leaf (.q Y24) (.own Hq false) (u1 F97)
def F94:(El Y25)->Option (List (El H2)):=fun f=>
 Va (ZD (decide (Vb ([]:List Unit)+Vb f<=ZE))) fun _=>
 Va (Zo (↑(Vb ([]++f)):Int) (Vb ([]++f)+(1:Nat))) fun h=>
 Va (sliceB (Vb ([]++f)) h none (some (↑(Vb ([]++f)):Int))) fun i=>some (Vj i.2 ([]++f))
def F94E:Zm:=ZK 51 Tryz.f51 13 [] .leaf (.q Y25) (.own H2 false) (u1 F94)
def F93:(El Wq)->Option (El Wq):=fun f=>
 Va (ZD (decide (Vb ([]:List Unit)+Vb f<=ZE))) fun _=>
 Va (Zo (↑(Vb ([]++f)):Int) (Vb ([]++f)+(1:Nat))) fun h=>
 Va (sliceB (Vb ([]++f)) h none (some (↑(Vb ([]++f)):Int))) fun i=>some (Vj i.2 (Vl (0:Nat) ([]++f)))
def F93E:Zm:=ZK 52 Tryz.f52 13 [] .leaf (.q Wq) (.pd Wq) (u1 F93)
def F92:(El J6)->Option (El J6):=fun f=>
 Va (ZD (decide (Vb ([]:List Unit)+Vb f<=ZE))) fun _=>
 Va (Zo (↑(Vb ([]++f)):Int) (Vb ([]++f)+(1:Nat))) fun h=>
 Va (sliceB (Vb ([]++f)) h none (some (↑(Vb ([]++f)):Int))) fun i=>some (Vj i.2 (Vl (0:Nat) ([]++f)))
def F92E:Zm:=ZK 53 Tryz.f53 13 [] .leaf (.q J6) (.pd J6) (u1 F92)
def F95:(El G1)->Option (El G1):=fun f=>
 Va (ZD (decide (Vb ([]:List Unit)+Vb f<=ZE))) fun _=>
 Va (Zo (↑(Vb ([]++f)):Int) (Vb ([]++f)+(1:Nat))) fun h=>
 Va (sliceB (Vb ([]++f)) h none (some (↑(Vb ([]++f)):Int))) fun i=>some (Vj i.2 (Vl (0:Nat) ([]++f)))
def F95E:Zm:=ZK 54 Tryz.f54 13 [] .leaf (.q G1) (.pd G1) (u1 F95)
end
end Q

