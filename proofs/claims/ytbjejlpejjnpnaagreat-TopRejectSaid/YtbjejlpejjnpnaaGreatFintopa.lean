/- The functions of the program as functions of Lean, and that the program computes them; printed by a program of mine. Conditions: none. -/
import Derived.KernelRfl
import Derived.Test.YtbjejlpejjnpnaaGreatProg
import Derived.Test.YtbjejlpejjnpnaaGreatETsC
import Derived.Test.YtbjejlpejjnpnaaGreatETsF
import Derived.Test.YtbjejlpejjnpnaaGreatLaytop
import Derived.Test.YtbjejlpejjnpnaaGreatUntop3
import Derived.Test.YtbjejlpejjnpnaaGreatSamtop
import Derived.Test.YtbjejlpejjnpnaaGreatUsetop
import Derived.Test.YtbjejlpejjnpnaaGreatLentop
open Tr Go Go.Proofs
open Int renaming toNat ->Vi,tdiv ->Vn
open Go.IntKind renaming wrap ->Vc
open List renaming length ->Vb,set ->Vg,replicate ->Vh,take ->Vj,drop ->Vl,isEmpty ->Vm
open Option renaming bind ->Va,getD ->Vf,isSome ->Vk
open Sum renaming elim ->Ve
open UInt8 renaming toNat ->Vd
namespace Q
noncomputable section
abbrev hS(h:WN):WN:=.seq .leaf h
abbrev Y3:Ty:=.int .i64
abbrev Y4:Ty:=.bool
abbrev Y9:Ty:=.str
abbrev Zff:Ty:=.prod Y9 (.prod Y3 (.prod Y4 (.prod Y3 .unit)))
abbrev Yp:Ty:=.sl Zff
abbrev Zfg:Ty:=.prod Y9 (.prod Y3 (.prod Y4 .unit))
abbrev Yq:Ty:=.sl Zfg
abbrev GH:Ty:=.prod Y3 (.prod Y3 (.prod Y3 (.prod Y4 (.prod Y4 .unit))))
abbrev X0:Ty:=.sl GH
abbrev HC:Ty:=.prod Y3 (.prod Y3 (.prod Y3 (.prod Y9 (.prod Y3 (.prod Y4 (.prod Y4 (.prod X0 .unit)))))))
abbrev Y24:Ty:=.sl HC
abbrev GK:Ty:=.prod Y3 (.prod Y3 (.prod Y3 (.prod Y3 (.prod Y4 .unit))))
abbrev Y25:Ty:=.sl GK
abbrev Wh:Ty:=.prod Y3 (.prod Y3 (.prod Y3 (.prod Y4 .unit)))
abbrev WI:Ty:=.sl Wh
abbrev XK:Ty:=.prod Y9 (.prod Y3 (.prod Y3 (.prod Y3 (.prod Y3 (.prod Y3 .unit)))))
abbrev G9:Ty:=.sl XK
abbrev KU:Ty:=.prod G9 (.prod Y3 (.prod Y3 (.prod Y3 .unit)))
abbrev ZH:Ty:=.prod Yp (.prod Yq (.prod Y24 (.prod Y25 (.prod WI (.prod KU .unit)))))
abbrev ZR:Ty:=.prod Y3 (.prod Y3 (.prod Y3 (.prod Y4 (.prod Y3 (.prod Y3 (.prod Y4 (.prod Y4 (.prod Y3 (.prod Y4 .unit)))))))))
abbrev Zr:Ty:=.int .i64
abbrev K4:Ty:=.prod Y4 (.prod Y3 (.prod Y3 (.prod Y3 (.prod Y3 (.prod Y3 (.prod Y3 (.prod Y3 (.prod Y4 .unit))))))))
abbrev DS:Ty:=.sl K4
abbrev KK:Ty:=.prod DS .unit
abbrev YR:Ty:=.prod Y3 (.prod Y3 (.prod Y3 (.prod Y3 (.prod Y3 .unit))))
abbrev HB:Ty:=.prod Y3 (.prod Y3 (.prod Y3 (.prod Y3 .unit)))
abbrev H6:Ty:=.sl HB
abbrev KP:Ty:=.prod KK (.prod YR (.prod H6 .unit))
abbrev Jr:Ty:=.sl KP
abbrev Jd:Ty:=.arr 4 Y3
abbrev Y43:Ty:=.sl Jd
abbrev Y49:Ty:=.prod Y3 (.prod Y3 (.prod Zr (.prod Y3 .unit)))
abbrev Ky:Ty:=.arr 4 Y3
abbrev WU:Ty:=.prod Y3 (.prod Y3 (.prod Y3 (.prod Y3 .unit)))
abbrev Ww:Ty:=.sl WU
abbrev YP:Ty:=.sl Y3
abbrev XI:Ty:=.pt KU
abbrev Zc2:Ty:=.arr 9 Y3
abbrev WC:Ty:=.lk XI (.prod WU (.prod Y3 (.prod Zc2 .unit)))
abbrev Wl:Ty:=.prod Y3 (.prod Y3 (.prod Y3 (.prod Y3 (.prod WU .unit))))
abbrev KX:Ty:=.prod Wl (.prod Y3 (.prod Y3 (.prod Y3 (.prod WC (.prod DS .unit)))))
abbrev Zib:Ty:=.sl KX
abbrev Zh7:Ty:=.ref
abbrev Zh8:Ty:=.ref
abbrev Zfh:Ty:=.prod ZH (.prod ZR (.prod Zh7 (.prod Zh8 (.prod Jr .unit))))
abbrev Zh9:Ty:=.ref
abbrev DP:Ty:=.prod Y4 (.prod Y3 (.prod H6 .unit))
abbrev Zno:Ty:=.sl DP
abbrev KT:Ty:=.prod Y3 (.prod Y3 (.prod Zr .unit))
abbrev Znp:Ty:=.sl KK
abbrev RE:Ty:=.sl YP
abbrev Znq:Ty:=.prod XI (.prod WC (.prod WU (.prod Y3 (.prod Zc2 .unit))))
abbrev Zau:Ty:=.prod KX (.prod Y3 .unit)
abbrev Zia:Ty:=.sl Zau
abbrev Zc3:Ty:=.prod Zh9 (.prod Zia (.prod Y3 .unit))
abbrev RG:Ty:=.sl Ky
abbrev Wm:Ty:=.prod ZH (.prod ZR (.prod DS (.prod Y3 .unit)))
abbrev DQ:Ty:=.int .u64
abbrev KY:Ty:=.int .u64
abbrev Zc4:Ty:=.prod Y4 (.prod Y3 (.prod Y3 (.prod HB .unit)))
abbrev Jq:Ty:=.arr 9 Zc4
abbrev Znr:Ty:=.ref
abbrev Zfi:Ty:=.sl KT
abbrev GI:Ty:=.prod Y9 (.prod Y3 (.prod Y3 .unit))
abbrev Zns:Ty:=.ref
abbrev Znt:Ty:=.ref
abbrev Znu:Ty:=.ref
abbrev Znv:Ty:=.ref
abbrev Znw:Ty:=.ref
abbrev XZ:Ty:=.prod Y3 (.prod Y3 (.prod Y4 .unit))
abbrev Znx:Ty:=.ref
abbrev GJ:Ty:=.prod Y3 (.prod Y3 (.prod Y3 (.prod Y3 (.prod DQ .unit))))
abbrev Zfj:Ty:=.sl GJ
abbrev Zny:Ty:=.ref
abbrev YQ:Ty:=.prod Y3 (.prod Y3 (.prod Y3 .unit))
abbrev DR:Ty:=.sl YQ
abbrev Znz:Ty:=.ref
abbrev XJ:Ty:=.prod Y3 (.prod Y3 (.prod Y3 .unit))
abbrev ZbC:Ty:=.sl XJ
abbrev Zic:Ty:=.ref
abbrev ZbD:Ty:=.prod XJ (.prod Y3 .unit)
abbrev Zid:Ty:=.sl ZbD
abbrev Zfk:Ty:=.prod Zic (.prod Zid (.prod Y3 .unit))
def tyTab:List (Nat×Ty):=[(3,Y3),(4,Y4),(9,Y9),(101,Zff),(22,Yp),(103,Zfg),(23,Yq),(105,GH),(71,X0),(73,HC),(24,Y24),(97,GK),(25,Y25),(77,Wh),(26,WI),(94,XK),(27,G9),(29,KU),(31,ZH),(33,ZR),(36,Zr),(79,K4),(45,DS),(47,KK),(55,YR),(159,HB),(56,H6),(62,KP),(39,Jr),(59,Jd),(43,Y43),(49,Y49),(82,Ky),(134,WU),(86,Ww),(118,YP),(180,XI),(181,Zc2),(124,WC),(136,Wl),(138,KX),(239,Zib),(128,Zh7),(129,Zh8),(131,Zfh),(139,Zh9),(155,DP),(153,Zno),(166,KT),(172,Znp),(173,RE),(183,Znq),(267,Zau),(184,Zia),(186,Zc3),(191,RG),(194,Wm),(196,DQ),(197,KY),(204,Zc4),(205,Jq),(212,Znr),(215,Zfi),(219,GI),(216,Zns),(220,Znt),(221,Znu),(222,Znv),(225,Znw),(283,XZ),(281,Znx),(297,GJ),(294,Zfj),(302,Zny),(305,YQ),(303,DR),(310,Znz),(320,XJ),(313,ZbC),(323,Zic),(333,ZbD),(329,Zid),(331,Zfk)]
def mapTab:List (Nat×Ty×Ty):=[(128,Wl,Zib),(212,Y9,Y4),(216,GI,Y4),(220,Y3,Y3),(221,Y3,Y4),(222,Jd,Y4),(225,Wh,Y4),(281,XZ,Y4),(302,XZ,Y3),(310,Y3,DR)]
def pkTab:List (Nat×Nat):=[(124,1),(129,1),(139,2),(321,1),(323,2)]
def bdTab:List (Nat×Nat):=[]
theorem X5:Tryz.prog.follows .mixedOrders=true:=by kernel_rfl
theorem tab_ok:ZcJ Tryz.prog tyTab mapTab pkTab bdTab=true:=by kernel_rfl
abbrev pd(n:Nat)(t:Ty):Nat×Zz:=(n,.pd t)
abbrev en(a:List (Nat×Zz))(c:List Nat):W0:=⟨a,[],c,[],[],[]⟩
abbrev e0:W0:=⟨[],[],[],[],[],[]⟩
variable {a b c d e g z:Type}
abbrev u1(f:a->z)(x:a×Unit):z:=f x.1
abbrev u2(f:a->b->z)(x:a×b×Unit):z:=f x.1 x.2.1
abbrev u3(f:a->b->c->z)(x:a×b×c×Unit):z:=f x.1 x.2.1 x.2.2.1
abbrev u4(f:a->b->c->d->z)(x:a×b×c×d×Unit):z:=f x.1 x.2.1 x.2.2.1 x.2.2.2.1
abbrev u5(f:a->b->c->d->e->z)(x:a×b×c×d×e×Unit):z:=f x.1 x.2.1 x.2.2.1 x.2.2.2.1 x.2.2.2.2.1
abbrev u6(f:a->b->c->d->e->g->z)(x:a×b×c×d×e×g×Unit):z:=f x.1 x.2.1 x.2.2.1 x.2.2.2.1 x.2.2.2.2.1 x.2.2.2.2.2.1
structure Zj where
 i:Nat
 S:Tr.Spec
 ok:Z7 Tryz.prog i S
def ofE:List Zj->List (Nat×List Tr.Spec)
 |[]=>[]
 |e::l=>(e.i,e.S::(l.filter fun d=>Nat.beq d.i e.i).map Zj.S)::ofE l
theorem ZkS:∀l,Rx Tryz.prog (ofE l)
 |[]=>trivial
 |e::l=>⟨⟨e.ok,f e.i _ fun d j=>Nat.eq_of_beq_eq_true (List.mem_filter.1 j).2⟩,ZkS l⟩
where f (i:Nat):∀l:List Zj,(∀d∈l,d.i=i)->Ry Tryz.prog i (l.map Zj.S)
 |[],_=>trivial
 |e::l,h=>⟨h e (by simp) ▸e.ok,f i l fun d j=>h d (by simp [j])⟩
abbrev _root_.Tr.Pats.p(t:Ty)(l:Pats):Pats:=.cons (.pd t) l
abbrev _root_.Tr.Pats.q(t:Ty):Pats:=.cons (.pd t) .nil
def Kd(i:Nat)(fn:Func)(nt:Nat)(l:List Zj)(hint:WN)(args res:Pats){α:Type}(f:KO args->Option α)(unp:α->WB args×KO res)(pack:WB args×KO res->α)(rws zxs:List Nat:=[])(fns:List FuncId:=[])(pl:Bool:=true)(kp:List (Nat×Nat×Nat):=[])
    (n:∀x z,f x=some z->Dk (mkE tyTab mapTab pkTab rws zxs (ofE l) nt bdTab) (Gd fn) fn.results hint args res pack x kp=some z:=by intro x z h;exact .trans (by kernel_rfl) h)
    (t:Tryz.prog.funcs[i]? =some fn:=by kernel_rfl) (s:fn.body=some (Gd fn):=by kernel_rfl) (o:nt=fn.ntmps:=by kernel_rfl) (j:(fn.name== "runtime.NumGoroutine")=false:=by kernel_rfl)
    (r:args.wf=true:=by kernel_rfl) (m:Nat.ble args.len nt=true:=by kernel_rfl) (k:∀y,unp (pack y)=y:=by intro y;rfl) (q:(!pl|| (ofE l).all fun p=>p.2.all (·.pl))=true:=by kernel_rfl):Zj:=
 ⟨i, {args,res,fns,α,f,unp,pl,kp},Yy X5 tab_ok (ZkS l) n t s o j r m k q⟩
def ZG(i:Nat)(fn:Func)(nt:Nat)(l:List Zj)(hint:WN)(args:Pats)(r:Zz)(f:KO args->Option (WM r))(rws zxs:List Nat:=[])(fns:List FuncId:=[])(pl:Bool:=true)(u:WB args:=by repeat' constructor)
    (n:∀x z,f x=some z->Dk (mkE tyTab mapTab pkTab rws zxs (ofE l) nt bdTab) (Gd fn) fn.results hint args (Pats.cons r .nil) (fun y:WB args×KO (Pats.cons r .nil)=>(y.2.1:WM r)) x []=some z:=by intro x z h;exact .trans (by kernel_rfl) h)
    (v:Tryz.prog.funcs[i]? =some fn:=by kernel_rfl) (t:fn.body=some (Gd fn):=by kernel_rfl) (o:nt=fn.ntmps:=by kernel_rfl) (j:(fn.name== "runtime.NumGoroutine")=false:=by kernel_rfl)
    (s:args.wf=true:=by kernel_rfl) (m:Nat.ble args.len nt=true:=by kernel_rfl) (k:∀y:WB args,u=y:=by intro y;rfl) (q:(!pl|| (ofE l).all fun p=>p.2.all (·.pl))=true:=by kernel_rfl):Zj:=
 Kd i fn nt l hint args (.cons r .nil) f (fun z=>(u,(z,()))) (fun y=>y.2.1) rws zxs fns pl [] n v t o j s m (fun y=>by rw[k y.1]) q
abbrev Zng:Zz:=.agg (.cons (.fn 69 .nil) (.cons (.own Zau true) (.q Y3)))
abbrev Znf:Zz:=.agg (.cons (.fn 69 .nil) (.cons (.own Zau false) (.q Y3)))
abbrev Zne:Zz:=.agg (.cons (.fn 266 .nil) (.cons (.own ZbD true) (.q Y3)))
abbrev DN:Zz:=.var Zc3 Zng
abbrev Znd:Zz:=.var Zc3 Znf
abbrev DM:Zz:=.var Zfk Zne
abbrev Pz9:Zz:=.agg (.cons (.fn 69 .nil) (.cons (.own Zau false) (.cons (.pd Y3) .nil)))
abbrev Pz8:Zz:=.agg (.cons (.fn 266 .nil) (.cons (.own ZbD false) (.cons (.pd Y3) .nil)))
abbrev Pz7:Zz:=.var Zc3 Pz9
abbrev RD:Zz:=.var Zfk Pz8
abbrev Pz5:Zz:=.agg (.cons (.pd Yp) (.cons (.pd Yq) (.cons (.own HC false) (.cons (.own GK false) (.cons (.pd WI) (.cons (.pd KU) .nil))))))
abbrev Pz4:Zz:=.var ZH Pz5
abbrev Pz3:Zz:=.agg (.p ZH (.p ZR (.cons (.mrows Wl KX) (.cons Znd (.cons (.own KP false) .nil)))))
abbrev Hz:Zz:=.var Zfh Pz3
abbrev Pz1:Zz:=.agg (.cons (.pd ZH) (.cons (.pd ZR) (.cons (.mrows Wl KX) (.cons Pz7 (.cons (.own KP false) .nil)))))
abbrev Yk:Zz:=.var Zfh Pz1
abbrev XY:=Unit×List (El Zau) ×El Y3×Unit
abbrev Yo:=Unit×List (El ZbD) ×El Y3×Unit
abbrev Jf:=El ZH×El ZR×List (El Wl×List (El KX)) ×XY×List (El KP) ×Unit
def F122:(El Y9)->Option (El Y4):=fun h=>
 Va (bif decide ((↑(Vb h):Int)<(1:Int)) then some true else some (decide ((32:Int)<(↑(Vb h):Int)))) fun j=>
 bif j then some false
 else
 Va
 (run
 (fun i=>
 bif decide (i<(↑(Vb h):Int)) then
 Va (idx h i) fun f=>
 Va
 (bif decide ((97:Int)<=(↑(Vd f):Int)) then
 bif decide ((↑(Vd f):Int)<=(122:Int)) then some true
 else
 bif decide ((65:Int)<=(↑(Vd f):Int)) then
 bif decide ((↑(Vd f):Int)<=(90:Int)) then some true
 else bif decide ((48:Int)<=(↑(Vd f):Int)) then some (decide ((↑(Vd f):Int)<=(57:Int))) else some false
 else bif decide ((48:Int)<=(↑(Vd f):Int)) then some (decide ((↑(Vd f):Int)<=(57:Int))) else some false
 else
 bif decide ((65:Int)<=(↑(Vd f):Int)) then
 bif decide ((↑(Vd f):Int)<=(90:Int)) then some true
 else bif decide ((48:Int)<=(↑(Vd f):Int)) then some (decide ((↑(Vd f):Int)<=(57:Int))) else some false
 else bif decide ((48:Int)<=(↑(Vd f):Int)) then some (decide ((↑(Vd f):Int)<=(57:Int))) else some false)
 fun k=>
 Va
 (bif !k then
 bif !decide ((↑(Vd f):Int)=(45:Int)) then
 bif !decide ((↑(Vd f):Int)=(95:Int)) then some !decide ((↑(Vd f):Int)=(46:Int)) else some false
 else some false
 else some false)
 fun l=>bif l then some (.inr (.inr false)) else some (.inl (Vc .i64 (i+(1:Int))))
 else some (.inr (.inl ())))
 (0:Int))
 fun m=>Ve (fun _=>some true) (fun n=>some n) m
def F122E:Zj:=ZG 180 Tryz.f180 59 [] (hS (.seq (.seq (.reg [(13,Y4)]) .leaf) (.seq (hS (.lp (en [pd 3 Y3] [0]) [(.exit 0,e0),(.ret,en [pd 2 Y4] [])] (hS (.seq (hS (.seq (.reg [(5,Y4)]) (.seq (.reg [(58,Y4)]) .leaf))) .leaf)))) .leaf))) (.q Y9) (.pd Y4) (u1 F122)
def F123:(El Y3)->(El Y3)->(El Y3)->Option (El Y4):=fun f h i=>Va (bif decide (h<=f) then some (decide (f<=i)) else some false) fun j=>some j
def F123E:Zj:=ZG 181 Tryz.f181 15 [] (hS (.seq (.reg [(6,Y4)]) .leaf)) (.p Y3 (.p Y3 (.q Y3))) (.pd Y4) (u3 F123)
def F129:(El Yp)->Option (El Y3×El Zr):=fun f=>
 bif decide ((64:Int)<(↑(Vb f):Int)) then some ((0:Int),(5:Int))
 else
 Va
 (run
 (fun s0=>
 bif decide (s0<(↑(Vb f):Int)) then
 Va (idx f s0) fun o=>
 Va (F122 o.1) fun p=>
 bif !p then some (.inr (.inr (s0,(12:Int))))
 else
 Va
 (run
 (fun j=>
 bif decide (j<s0) then
 Va (idx f j) fun q=>
 Va (idx f s0) fun r=>
 bif decide (q.1=r.1) then some (.inr (.inr (s0,(6:Int)))) else some (.inl (Vc .i64 (j+(1:Int))))
 else some (.inr (.inl ())))
 (0:Int))
 fun s=>
 Ve
 (fun _=>
 Va
 (Va (idx f s0) fun t=>
 Va (F123 t.2.1 (0:Int) (15:Int)) fun u=>
 bif !u then some true
 else Va (idx f s0) fun k=>Va (F123 k.2.2.2.1 (0:Int) (3600:Int)) fun l=>some !l)
 fun m=>bif m then some (.inr (.inr (s0,(2:Int)))) else some (.inl (Vc .i64 (s0+(1:Int)))))
 (fun h=>some (.inr (.inr (h.1,h.2)))) s
 else some (.inr (.inl ())))
 (0:Int))
 fun n=>Ve (fun _=>some ((0:Int),(0:Int))) (fun i=>some (i.1,i.2)) n
def F129E:Zj:=Kd 131 Tryz.f131 57 [F122E,F123E] (hS (hS (.seq (hS (.lp (en [pd 4 Y3] [0]) [(.exit 0,e0),(.ret,en [pd 2 Y3,pd 3 Zr] [])] (hS (.seq (hS (.seq (hS (.lp (en [pd 5 Y3] [0,4]) [(.exit 2,en [] [0,4]),(.ret,en [pd 2 Y3,pd 3 Zr] [])] .leaf)) (.seq (.reg [(55,Y4)]) .leaf))) .leaf)))) .leaf))) (.q Yp) (.p Y3 (.q Zr)) (u1 F129) (fun z=>(((),()),(z.1,z.2,()))) (fun y=>(y.2.1,y.2.2.1))
def F127:(El Yq)->Option (El Y3×El Zr):=fun f=>
 bif decide ((64:Int)<(↑(Vb f):Int)) then some ((0:Int),(5:Int))
 else
 Va
 (run
 (fun s0=>
 bif decide (s0<(↑(Vb f):Int)) then
 Va (idx f s0) fun l=>
 Va (F122 l.1) fun m=>
 bif !m then some (.inr (.inr (s0,(12:Int))))
 else
 Va
 (run
 (fun j=>
 bif decide (j<s0) then
 Va (idx f j) fun n=>
 Va (idx f s0) fun o=>
 bif decide (n.1=o.1) then some (.inr (.inr (s0,(6:Int)))) else some (.inl (Vc .i64 (j+(1:Int))))
 else some (.inr (.inl ())))
 (0:Int))
 fun p=>
 Ve
 (fun _=>
 Va (idx f s0) fun q=>
 Va (F123 q.2.1 (0:Int) (7:Int)) fun r=>
 bif !r then some (.inr (.inr (s0,(2:Int)))) else some (.inl (Vc .i64 (s0+(1:Int)))))
 (fun h=>some (.inr (.inr (h.1,h.2)))) p
 else some (.inr (.inl ())))
 (0:Int))
 fun k=>Ve (fun _=>some ((0:Int),(0:Int))) (fun i=>some (i.1,i.2)) k
def F127E:Zj:=Kd 132 Tryz.f132 48 [F122E,F123E] (hS (hS (.seq (hS (.lp (en [pd 4 Y3] [0]) [(.exit 0,e0),(.ret,en [pd 2 Y3,pd 3 Zr] [])] (hS (.seq (hS (.seq (hS (.lp (en [pd 5 Y3] [0,4]) [(.exit 2,en [] [0,4]),(.ret,en [pd 2 Y3,pd 3 Zr] [])] .leaf)) .leaf)) .leaf)))) .leaf))) (.q Yq) (.p Y3 (.q Zr)) (u1 F127) (fun z=>(((),()),(z.1,z.2,()))) (fun y=>(y.2.1,y.2.2.1))
def F115:(El X0)->(El Y3)->(El Y3)->(El Y3)->Option (El Zr):=fun i k l m=>
 Va (bif decide ((↑(Vb i):Int)<(2:Int)) then some true else some (decide ((32:Int)<(↑(Vb i):Int)))) fun n=>
 bif n then some (5:Int)
 else
 Va
 (run
 (fun h=>
 bif decide (h<(↑(Vb i):Int)) then
 Va (idx i h) fun f=>
 Va (bif decide (f.1<(0:Int)) then some true else some (decide (k<=f.1))) fun o=>
 bif o then some (.inr (.inr (9:Int)))
 else
 Va
 (bif decide ((0:Int)<h) then Va (idx i (Vc .i64 (h - (1:Int)))) fun p=>some (decide (p.1=f.1))
 else some false)
 fun q=>
 bif q then some (.inr (.inr (13:Int)))
 else
 Va
 (bif decide (f.2.1<l) then some true
 else
 bif decide (f.2.2.1<f.2.1) then some true
 else
 bif decide (m<f.2.2.1) then some true
 else
 bif decide ((0:Int)<h) then
 Va (idx i (Vc .i64 (h - (1:Int)))) fun r=>some (decide (f.2.1<r.2.2.1))
 else some false)
 fun s=>bif s then some (.inr (.inr (10:Int))) else some (.inl (Vc .i64 (h+(1:Int))))
 else some (.inr (.inl ())))
 (0:Int))
 fun t=>Ve (fun _=>some (0:Int)) (fun j=>some j) t
def F115E:Zj:=ZG 182 Tryz.f182 83 [] (hS (.seq (.seq (.reg [(18,Y4)]) .leaf) (.seq (hS (.lp (en [pd 9 Y3] [0,1,2,3]) [(.exit 0,e0),(.ret,en [pd 8 Zr] [])] (hS (.seq (hS (.seq (.seq (.reg [(37,Y4)]) .leaf) (.seq (.seq (.reg [(50,Y4)]) .leaf) (.seq (.reg [(82,Y4)]) .leaf)))) .leaf)))) .leaf))) (.p X0 (.p Y3 (.p Y3 (.q Y3)))) (.pd Zr) (u4 F115)
def F128:(El ZH)->(El Y3)->Option (El Zr):=fun h l=>
 Va (idx h.2.2.1 l) fun f=>
 Va (F122 f.2.2.2.1) fun n=>
 bif !n then some (12:Int)
 else
 Va (bif decide (f.1<(-1:Int)) then some true else some (decide (f.2.2.1<(0:Int)))) fun o=>
 bif o then some (2:Int)
 else
 Va (F123 f.2.1 (0:Int) (36524:Int)) fun p=>
 bif !p then some (11:Int)
 else
 Va
 (bif decide (f.2.2.2.2.1<(0:Int)) then some true
 else some (decide ((↑(Vb h.2.1):Int)<=f.2.2.2.2.1)))
 fun q=>
 bif q then some (9:Int)
 else
 Va (F115 f.2.2.2.2.2.2.2.1 (↑(Vb h.1):Int) (0:Int) (3155932800:Int)) fun m=>
 bif !decide (m=(0:Int)) then some m
 else
 Va
 (run
 (fun i=>
 bif decide (i<l) then
 Va (idx h.2.2.1 i) fun j=>
 Va
 (bif decide (j.2.2.2.1=f.2.2.2.1) then
 bif decide (j.2.1=f.2.1) then some (decide (j.2.2.1=f.2.2.1)) else some false
 else some false)
 fun r=>bif r then some (.inr (.inr (6:Int))) else some (.inl (Vc .i64 (i+(1:Int))))
 else some (.inr (.inl ())))
 (0:Int))
 fun s=>Ve (fun _=>some (0:Int)) (fun k=>some k) s
def F128E:Zj:=ZG 133 Tryz.f133 79 [F122E,F123E,F115E] (hS (hS (hS (.seq (.seq (.reg [(25,Y4)]) .leaf) (hS (.seq (.seq (.reg [(40,Y4)]) .leaf) (hS (hS (.seq (hS (.lp (en [pd 7 Y3] [1,2,5]) [(.exit 0,e0),(.ret,en [pd 4 Zr] [])] (hS (.seq (hS (.seq (.reg [(78,Y4)]) .leaf)) .leaf)))) .leaf))))))))) (.p ZH (.q Y3)) (.pd Zr) (u2 F128)
def F124:(El ZH)->(El Y3)->(El Y3)->(El Y3)->Option (El Y4):=fun h i k l=>
 Va
 (run
 (fun s0=>
 bif decide (s0.2<=i) then
 Va
 (run
 (fun f=>
 bif decide (f.2<i) then
 Va
 (Va (idx h.2.2.2.1 f.2) fun m=>
 bif m.2.2.2.2.1 then Va (idx h.2.2.2.1 f.2) fun n=>some (decide (n.1=s0.1)) else some false)
 fun o=>
 bif o then Va (idx h.2.2.2.1 f.2) fun p=>some (.inl (p.2.2.1,Vc .i64 (f.2+(1:Int))))
 else some (.inl (f.1,Vc .i64 (f.2+(1:Int))))
 else some (.inr f.1))
 ((-1:Int),(0:Int)))
 fun j=>bif decide (j=l) then some (.inr (.inr true)) else some (.inl (j,Vc .i64 (s0.2+(1:Int))))
 else some (.inr (.inl ())))
 (k,(0:Int)))
 fun q=>Ve (fun _=>some false) (fun r=>some r) q
def F124E:Zj:=ZG 183 Tryz.f183 48 [] (hS (.seq (hS (.lp (en [pd 2 Y3,pd 9 Y3] [1,3,4]) [(.exit 0,e0),(.ret,en [pd 8 Y4] [])] (hS (.seq (hS (.seq (hS (.lp (en [pd 10 Y3,pd 11 Y3] [1,2,3,4,9]) [(.exit 2,en [pd 10 Y3] [1,3,4,9])] (hS (.seq (.seq (.reg [(37,Y4)]) .leaf) .leaf)))) .leaf)) .leaf)))) .leaf)) (.p ZH (.p Y3 (.p Y3 (.q Y3)))) (.pd Y4) (u4 F124)
def F125:(El ZH)->(El Y3)->Option (El Zr):=fun i m=>
 Va (idx i.2.2.2.1 m) fun f=>
 Va
 (Va (F123 f.1 (0:Int) (Vc .i64 ((↑(Vb i.2.2.1):Int) - (1:Int)))) fun A=>
 bif !A then some true
 else
 Va (F123 f.2.2.1 (0:Int) (Vc .i64 ((↑(Vb i.2.2.1):Int) - (1:Int)))) fun B=>
 bif !B then some true else some (decide (f.1=f.2.2.1)))
 fun C=>
 bif C then some (9:Int)
 else
 Va (idx i.2.2.1 f.1) fun v=>
 Va (idx i.2.2.1 f.2.2.1) fun y=>
 Va
 (Va (F123 f.2.1 (0:Int) (Vc .i64 ((↑(Vb v.2.2.2.2.2.2.2.1):Int) - (1:Int)))) fun D=>
 bif !D then some true
 else
 Va (F123 f.2.2.2.1 (0:Int) (Vc .i64 ((↑(Vb y.2.2.2.2.2.2.2.1):Int) - (1:Int)))) fun E=>
 some !E)
 fun F=>
 bif F then some (9:Int)
 else
 Va (idx v.2.2.2.2.2.2.2.1 f.2.1) fun G=>
 Va (idx y.2.2.2.2.2.2.2.1 f.2.2.2.1) fun n=>
 bif !decide (G.1=n.1) then some (13:Int)
 else
 Va
 (bif f.2.2.2.2.1 then
 bif !decide (f.2.1=Vc .i64 ((↑(Vb v.2.2.2.2.2.2.2.1):Int) - (1:Int))) then some true
 else some !decide (f.2.2.2.1=(0:Int))
 else some false)
 fun o=>
 bif o then some (19:Int)
 else
 Va
 (run
 (fun j=>
 bif decide (j<m) then
 Va (idx i.2.2.2.1 j) fun l=>
 Va
 (bif f.2.2.2.2.1 then
 bif l.2.2.2.2.1 then
 bif decide (l.1=f.1) then some true else some (decide (l.2.2.1=f.2.2.1))
 else some false
 else some false)
 fun p=>bif p then some (.inr (.inr (19:Int))) else some (.inl (Vc .i64 (j+(1:Int))))
 else some (.inr (.inl ())))
 (0:Int))
 fun q=>
 Ve
 (fun _=>
 Va (bif f.2.2.2.2.1 then Va (F124 i m f.2.2.1 f.1) fun r=>some r else some false) fun s=>
 bif s then some (19:Int)
 else
 Va
 (run
 (fun k=>
 bif decide (k<m) then
 Va (idx i.2.2.2.1 k) fun h=>
 Va
 (bif decide (h.1=f.1) then
 bif decide (h.2.1=f.2.1) then
 bif decide (h.2.2.1=f.2.2.1) then some (decide (h.2.2.2.1=f.2.2.2.1))
 else some false
 else some false
 else some false)
 fun t=>bif t then some (.inr (.inr (6:Int))) else some (.inl (Vc .i64 (k+(1:Int))))
 else some (.inr (.inl ())))
 (0:Int))
 fun u=>Ve (fun _=>some (0:Int)) (fun w=>some w) u)
 (fun x=>some x) q
def F125E:Zj:=ZG 134 Tryz.f134 177 [F123E,F124E] (hS (hS (.seq (.seq (.reg [(41,Y4)]) .leaf) (hS (.seq (.seq (.reg [(71,Y4)]) .leaf) (hS (.seq (.seq (.reg [(99,Y4)]) .leaf) (.seq (hS (.lp (en [pd 8 Y3] [1,2,5]) [(.exit 0,en [] [1,2,5]),(.ret,en [pd 4 Zr] [])] (hS (.seq (hS (.seq (.reg [(129,Y4)]) .leaf)) .leaf)))) (.seq (.seq (.reg [(140,Y4)]) .leaf) (.seq (hS (.lp (en [pd 10 Y3] [1,2,5]) [(.exit 2,e0),(.ret,en [pd 4 Zr] [])] (hS (.seq (hS (.seq (.reg [(176,Y4)]) .leaf)) .leaf)))) .leaf)))))))))) (.p ZH (.q Y3)) (.pd Zr) (u2 F125)
def F119:(El WI)->(El Y3)->(El Y4)->Option (El RE):=fun V r W=>
 Va
 (run
 (fun s0=>
 bif decide (s0.2<r) then
 Va
 (run
 (fun l=>
 bif decide (l.2.2<r) then
 Va (ZF (decide (Vb l.2.1+Vb [(1099511627776:Int)]<=ZC))) fun _=>
 some (.inl (l.1,l.2.1++[(1099511627776:Int)],Vc .i64 (l.2.2+(1:Int))))
 else some (.inr (l.1,l.2.1)))
 (s0.1,[],(0:Int)))
 fun w=>
 Va (ZF (decide (Vb w.1+Vb [w.2]<=ZC))) fun _=>
 some (.inl (w.1++[w.2],Vc .i64 (s0.2+(1:Int))))
 else some (.inr s0.1))
 ([],(0:Int)))
 fun X=>
 Va
 (run
 (fun i=>
 bif decide (i.2<(↑(Vb V):Int)) then
 Va (idx V i.2) fun q=>
 Va (bif q.2.2.2.1 then some true else some !W) fun Y=>
 bif Y then
 Va (Zn q.1 (Vb i.1)) fun x=>
 Va i.1[x]? fun _=>
 Va (Zn q.1 (Vb i.1)) fun m=>
 Va i.1[m]? fun _=>
 Va (idx i.1 (↑m:Int)) fun y=>
 Va (Zn q.2.1 (Vb y)) fun A=>
 Va (idx i.1 (↑m:Int)) fun B=>
 Va B[A]? fun C=>
 Va (idx i.1 (↑x:Int)) fun D=>
 Va (Zn q.2.1 (Vb D)) fun s=>
 Va (idx i.1 (↑x:Int)) fun t=>
 Va t[s]? fun _=>
 some
 (.inl (Vg i.1 (Vi (↑x:Int)) (Vg t s (Tr.imin C q.2.2.1)),Vc .i64 (i.2+(1:Int))))
 else some (.inl (i.1,Vc .i64 (i.2+(1:Int))))
 else some (.inr i.1))
 (X,(0:Int)))
 fun E=>
 Va
 (run
 (fun j=>
 bif decide (j.2<r) then
 Va
 (run
 (fun h=>
 bif decide (h.2<r) then
 Va
 (run
 (fun f=>
 bif decide (f.2<r) then
 Va (Zn h.2 (Vb f.1)) fun k=>
 Va f.1[k]? fun _=>
 Va (Zn h.2 (Vb f.1)) fun n=>
 Va f.1[n]? fun _=>
 Va (idx f.1 (↑n:Int)) fun F=>
 Va (Zn f.2 (Vb F)) fun G=>
 Va (idx f.1 (↑n:Int)) fun H=>
 Va H[G]? fun I=>
 Va (Zn h.2 (Vb f.1)) fun o=>
 Va f.1[o]? fun _=>
 Va (idx f.1 (↑o:Int)) fun J=>
 Va (Zn j.2 (Vb J)) fun K=>
 Va (idx f.1 (↑o:Int)) fun L=>
 Va L[K]? fun M=>
 Va (Zn j.2 (Vb f.1)) fun p=>
 Va f.1[p]? fun _=>
 Va (idx f.1 (↑p:Int)) fun N=>
 Va (Zn f.2 (Vb N)) fun O=>
 Va (idx f.1 (↑p:Int)) fun P=>
 Va P[O]? fun Q=>
 Va (idx f.1 (↑k:Int)) fun R=>
 Va (Zn f.2 (Vb R)) fun u=>
 Va (idx f.1 (↑k:Int)) fun v=>
 Va v[u]? fun _=>
 some
 (.inl
 (Vg f.1 (Vi (↑k:Int))
 (Vg v u (Tr.imin I (Vc .i64 (M+Q)))),
 Vc .i64 (f.2+(1:Int))))
 else some (.inr f.1))
 (h.1,(0:Int)))
 fun S=>some (.inl (S,Vc .i64 (h.2+(1:Int))))
 else some (.inr h.1))
 (j.1,(0:Int)))
 fun T=>some (.inl (T,Vc .i64 (j.2+(1:Int))))
 else some (.inr j.1))
 (E,(0:Int)))
 fun U=>some U
def F119E:Zj:=ZG 226 Tryz.f226 116 [] (hS (hS (.seq (hS (.lp (en [(7,.rows Y3 false),pd 8 Y3] [0,1,2]) [(.exit 0,en [(7,.rows Y3 false)] [0,1,2])] (hS (.seq (hS (.seq (hS (.lp (en [(7,.rows Y3 false),(9,.own Y3 false),pd 10 Y3] [0,1,2,8]) [(.exit 2,en [(7,.rows Y3 false),(9,.own Y3 false)] [0,1,2,8])] .leaf)) .leaf)) .leaf)))) (.seq (hS (.lp (en [(7,.rows Y3 false),pd 11 Y3] [0,1,2]) [(.exit 4,en [(7,.rows Y3 false)] [1])] (hS (.seq (hS (.seq (.reg [(50,Y4)]) .leaf)) .leaf)))) (.seq (hS (.lp (en [(7,.rows Y3 false),pd 13 Y3] [1]) [(.exit 6,en [(7,.rows Y3 false)] [])] (hS (.seq (hS (.lp (en [(7,.rows Y3 false),pd 14 Y3] [1,13]) [(.exit 8,en [(7,.rows Y3 false)] [1,13])] (hS (.seq (hS (.lp (en [(7,.rows Y3 false),pd 15 Y3] [1,13,14]) [(.exit 10,en [(7,.rows Y3 false)] [1,13,14])] .leaf)) .leaf)))) .leaf)))) .leaf))))) (.p WI (.p Y3 (.q Y4))) (.pd RE) (u3 F119) (rws:=[173])
def F117:(El WI)->(El Y3)->Option (El WI):=fun B l=>
 Va (F119 B l false) fun m=>
 Va (F119 B l true) fun n=>
 Va
 (run
 (fun h=>
 bif decide (h.2<l) then
 Va
 (run
 (fun f=>
 bif decide (f.2<l) then
 Va
 (bif decide (h.2=f.2) then some true
 else Va (idx m h.2) fun C=>Va (idx C f.2) fun D=>some (decide ((14400:Int)<D)))
 fun E=>
 bif E then some (.inl (f.1,Vc .i64 (f.2+(1:Int))))
 else
 Va (idx m h.2) fun F=>
 Va (idx F f.2) fun o=>
 Va (idx n h.2) fun G=>
 Va (idx G f.2) fun i=>
 Va (idx m h.2) fun p=>
 Va (idx p f.2) fun j=>
 Va (ZF (decide (Vb f.1+Vb [(h.2,f.2,o,decide (i=j),())]<=ZC))) fun _=>
 Va
 (Va (idx n h.2) fun q=>
 Va (idx q f.2) fun r=>
 Va (idx m h.2) fun s=>
 Va (idx s f.2) fun t=>
 bif decide (t<r) then
 Va (idx n h.2) fun u=>Va (idx u f.2) fun v=>some (decide (v<=(14400:Int)))
 else some false)
 fun w=>
 bif w then
 Va (idx n h.2) fun x=>
 Va (idx x f.2) fun k=>
 Va
 (ZF
 (decide
 (Vb (f.1++[(h.2,f.2,o,decide (i=j),())])+Vb [(h.2,f.2,k,true,())]<=
 ZC)))
 fun _=>
 some
 (.inl
 (f.1++[(h.2,f.2,o,decide (i=j),())]++[(h.2,f.2,k,true,())],
 Vc .i64 (f.2+(1:Int))))
 else some (.inl (f.1++[(h.2,f.2,o,decide (i=j),())],Vc .i64 (f.2+(1:Int))))
 else some (.inr f.1))
 (h.1,(0:Int)))
 fun y=>some (.inl (y,Vc .i64 (h.2+(1:Int))))
 else some (.inr h.1))
 ([],(0:Int)))
 fun A=>some A
def F117E:Zj:=ZG 184 Tryz.f184 107 [F119E] (hS (hS (hS (.seq (hS (.lp (en [(7,.own Wh false),pd 8 Y3] [1,5,6]) [(.exit 0,en [(7,.own Wh false)] [])] (hS (.seq (hS (.lp (en [(7,.own Wh false),pd 9 Y3] [1,5,6,8]) [(.exit 2,en [(7,.own Wh false)] [1,5,6,8])] (hS (.seq (.seq (.seq (.reg [(39,Y4)]) .leaf) (hS (.seq (.reg [(92,Y4)]) .leaf))) .leaf)))) .leaf)))) .leaf)))) (.p WI (.q Y3)) (.pd WI) (u2 F117)
def F126:(El ZH)->Option (El Y3×El Zr):=fun f=>
 Va
 (run
 (fun s0=>
 bif decide (s0<(↑(Vb f.2.2.2.2.1):Int)) then
 Va (idx f.2.2.2.2.1 s0) fun k=>
 Va
 (Va (F123 k.1 (0:Int) (Vc .i64 ((↑(Vb f.1):Int) - (1:Int)))) fun t=>
 bif !t then some true
 else
 Va (F123 k.2.1 (0:Int) (Vc .i64 ((↑(Vb f.1):Int) - (1:Int)))) fun u=>
 bif !u then some true else some (decide (k.1=k.2.1)))
 fun v=>
 bif v then some (.inr (.inr (s0,(9:Int))))
 else
 Va (F123 k.2.2.1 (1:Int) (14400:Int)) fun w=>
 bif !w then some (.inr (.inr (s0,(2:Int))))
 else
 Va
 (run
 (fun p=>
 bif decide (p<s0) then
 Va (idx f.2.2.2.2.1 p) fun s=>
 Va
 (bif decide (s.1=k.1) then
 bif decide (s.2.1=k.2.1) then some (s.2.2.2.1==k.2.2.2.1) else some false
 else some false)
 fun x=>bif x then some (.inr (.inr (s0,(6:Int)))) else some (.inl (Vc .i64 (p+(1:Int))))
 else some (.inr (.inl ())))
 (0:Int))
 fun y=>Ve (fun _=>some (.inl (Vc .i64 (s0+(1:Int))))) (fun m=>some (.inr (.inr (m.1,m.2)))) y
 else some (.inr (.inl ())))
 (0:Int))
 fun q=>
 Ve
 (fun _=>
 Va (F117 f.2.2.2.2.1 (↑(Vb f.1):Int)) fun l=>
 bif !decide ((↑(Vb l):Int)=(↑(Vb f.2.2.2.2.1):Int)) then some ((0:Int),(18:Int))
 else
 Va
 (run
 (fun h=>
 bif decide (h<(↑(Vb l):Int)) then
 Va (idx l h) fun i=>
 Va (idx f.2.2.2.2.1 h) fun j=>
 bif
 !(decide (i.1=j.1) &&
 (decide (i.2.1=j.2.1) && (decide (i.2.2.1=j.2.2.1) &&i.2.2.2.1==j.2.2.2.1))) then
 some (.inr (.inr ((0:Int),(18:Int))))
 else some (.inl (Vc .i64 (h+(1:Int))))
 else some (.inr (.inl ())))
 (0:Int))
 fun r=>Ve (fun _=>some ((0:Int),(0:Int))) (fun n=>some (n.1,n.2)) r)
 (fun o=>some (o.1,o.2)) q
def F126E:Zj:=Kd 135 Tryz.f135 111 [F123E,F117E] (hS (.seq (hS (.lp (en [pd 4 Y3] [1]) [(.exit 0,en [] [1]),(.ret,en [pd 2 Y3,pd 3 Zr] [])] (hS (.seq (hS (.seq (.seq (.reg [(46,Y4)]) .leaf) (hS (hS (.lp (en [pd 6 Y3] [1,4,5]) [(.exit 2,en [] [1,4]),(.ret,en [pd 2 Y3,pd 3 Zr] [])] (hS (.seq (hS (.seq (.reg [(81,Y4)]) .leaf)) .leaf))))))) .leaf)))) (hS (hS (.seq (hS (.lp (en [pd 9 Y3] [1,8]) [(.exit 4,e0),(.ret,en [pd 2 Y3,pd 3 Zr] [])] .leaf)) .leaf))))) (.q ZH) (.p Y3 (.q Zr)) (u1 F126) (fun z=>(((),()),(z.1,z.2,()))) (fun y=>(y.2.1,y.2.2.1))
def F118:(El KU)->Option (El Y3×El Zr):=fun f=>
 Va
 (Va (F123 f.2.1 (0:Int) (1000000:Int)) fun t=>
 bif !t then some true
 else
 Va (F123 f.2.2.1 (0:Int) (86400:Int)) fun u=>
 bif !u then some true else Va (F123 f.2.2.2.1 (0:Int) (1000000:Int)) fun v=>some !v)
 fun w=>
 bif w then some ((-1:Int),(2:Int))
 else
 bif decide ((16:Int)<(↑(Vb f.1):Int)) then some ((0:Int),(5:Int))
 else
 Va
 (run
 (fun h=>
 bif decide (h<(↑(Vb f.1):Int)) then
 Va (idx f.1 h) fun i=>
 Va (F122 i.1) fun x=>
 bif !x then some (.inr (.inr (h,(12:Int))))
 else
 Va
 (run
 (fun l=>
 bif decide (l<h) then
 Va (idx f.1 l) fun y=>
 bif decide (y.1=i.1) then some (.inr (.inr (h,(6:Int)))) else some (.inl (Vc .i64 (l+(1:Int))))
 else some (.inr (.inl ())))
 (0:Int))
 fun A=>
 Ve
 (fun _=>
 Va
 (Va (F123 i.2.1 (0:Int) (1000000:Int)) fun m=>
 bif !m then some true
 else
 Va (F123 i.2.2.1 (1:Int) (8:Int)) fun n=>
 bif !n then some true
 else
 Va (F123 i.2.2.2.1 (1:Int) (16:Int)) fun o=>
 bif !o then some true
 else
 Va (F123 i.2.2.2.2.1 (0:Int) (86400:Int)) fun p=>
 bif !p then some true else Va (F123 i.2.2.2.2.2.1 (1:Int) (255:Int)) fun q=>some !q)
 fun r=>bif r then some (.inr (.inr (h,(2:Int)))) else some (.inl (Vc .i64 (h+(1:Int)))))
 (fun j=>some (.inr (.inr (j.1,j.2)))) A
 else some (.inr (.inl ())))
 (0:Int))
 fun s=>Ve (fun _=>some ((0:Int),(0:Int))) (fun k=>some (k.1,k.2)) s
def F118E:Zj:=Kd 136 Tryz.f136 88 [F122E,F123E] (hS (.seq (.seq (.reg [(22,Y4)]) .leaf) (hS (.seq (hS (.lp (en [pd 4 Y3] [1]) [(.exit 0,e0),(.ret,en [pd 2 Y3,pd 3 Zr] [])] (hS (.seq (hS (hS (.seq (hS (.lp (en [pd 6 Y3] [1,4,5]) [(.exit 2,en [] [1,4,5]),(.ret,en [pd 2 Y3,pd 3 Zr] [])] .leaf)) (.seq (.reg [(86,Y4)]) .leaf)))) .leaf)))) .leaf)))) (.q KU) (.p Y3 (.q Zr)) (u1 F118) (fun z=>(((),()),(z.1,z.2,()))) (fun y=>(y.2.1,y.2.2.1))
def F116:(El ZH)->Option (El Y3×El Y3×El Zr):=fun f=>
 Va (F129 f.1) fun n=>
 bif !decide (n.2=(0:Int)) then some ((0:Int),n.1,n.2)
 else
 Va (F127 f.2.1) fun o=>
 bif !decide (o.2=(0:Int)) then some ((1:Int),o.1,o.2)
 else
 bif decide ((1024:Int)<(↑(Vb f.2.2.1):Int)) then some ((2:Int),(0:Int),(5:Int))
 else
 Va
 (run
 (fun l=>
 bif decide (l<(↑(Vb f.2.2.1):Int)) then
 Va (F128 f l) fun p=>
 bif !decide (p=(0:Int)) then some (.inr (.inr ((2:Int),l,p))) else some (.inl (Vc .i64 (l+(1:Int))))
 else some (.inr (.inl ())))
 (0:Int))
 fun r=>
 Ve
 (fun _=>
 bif decide ((1024:Int)<(↑(Vb f.2.2.2.1):Int)) then some ((3:Int),(0:Int),(5:Int))
 else
 Va
 (run
 (fun m=>
 bif decide (m<(↑(Vb f.2.2.2.1):Int)) then
 Va (F125 f m) fun q=>
 bif !decide (q=(0:Int)) then some (.inr (.inr ((3:Int),m,q)))
 else some (.inl (Vc .i64 (m+(1:Int))))
 else some (.inr (.inl ())))
 (0:Int))
 fun s=>
 Ve
 (fun _=>
 Va (F126 f) fun h=>
 bif !decide (h.2=(0:Int)) then some ((4:Int),h.1,h.2)
 else
 Va (F118 f.2.2.2.2.2.1) fun i=>
 bif !decide (i.2=(0:Int)) then some ((5:Int),i.1,i.2) else some ((0:Int),(0:Int),(0:Int)))
 (fun j=>some (j.1,j.2.1,j.2.2)) s)
 (fun k=>some (k.1,k.2.1,k.2.2)) r
def F116E:Zj:=Kd 94 Tryz.f94 84 [F129E,F127E,F128E,F125E,F126E,F118E] (hS (hS (hS (hS (hS (hS (.seq (hS (.lp (en [pd 7 Y3] [1]) [(.exit 0,en [] [1]),(.ret,en [pd 2 Y3,pd 3 Y3,pd 4 Zr] [])] .leaf)) (hS (.seq (hS (.lp (en [pd 8 Y3] [1]) [(.exit 2,en [] [1]),(.ret,en [pd 2 Y3,pd 3 Y3,pd 4 Zr] [])] .leaf)) .leaf))))))))) (.q ZH) (.p Y3 (.p Y3 (.q Zr))) (u1 F116) (fun z=>(((),()),(z.1,z.2.1,z.2.2,()))) (fun y=>(y.2.1,y.2.2.1,y.2.2.2.1))
def F121:(El ZH)->Option (El Y4):=fun f=>Va (F116 f) fun h=>some (decide (h.2.2=(0:Int)))
def F121E:Zj:=ZG 44 Tryz.f44 14 [F116E] .leaf (.q ZH) (.pd Y4) (u1 F121)
def F120:(El ZH)->Option (El Y4):=fun f=>
 Va
 (bif decide ((5:Int)<(↑(Vb f.1):Int)) then some true
 else
 bif decide ((7:Int)<(↑(Vb f.2.2.1):Int)) then some true
 else
 bif decide ((30:Int)<(↑(Vb f.2.2.2.1):Int)) then some true
 else some (decide ((60:Int)<(↑(Vb f.2.2.2.2.1):Int))))
 fun i=>
 bif i then some false
 else
 Va
 (run
 (fun h=>
 bif decide (h<(↑(Vb f.2.2.1):Int)) then
 Va (idx f.2.2.1 h) fun j=>
 bif decide ((6:Int)<(↑(Vb j.2.2.2.2.2.2.2.1):Int)) then some (.inr (.inr false))
 else some (.inl (Vc .i64 (h+(1:Int))))
 else some (.inr (.inl ())))
 (0:Int))
 fun k=>Ve (fun _=>Va (F121 f) fun l=>some l) (fun m=>some m) k
def F120E:Zj:=ZG 21 Tryz.f21 43 [F121E] (hS (.seq (.seq (.reg [(25,Y4)]) .leaf) (.seq (hS (.lp (en [pd 3 Y3] [1]) [(.exit 0,en [] [1]),(.ret,en [pd 2 Y4] [])] .leaf)) .leaf))) (.q ZH) (.pd Y4) (u1 F120)
def F150:(El Y3)->(El Y3)->(El Y3)->Option (El Y4):=fun f h i=>Va (bif decide (h<=f) then some (decide (f<=i)) else some false) fun j=>some j
def F150E:Zj:=ZG 95 Tryz.f95 15 [] (hS (.seq (.reg [(6,Y4)]) .leaf)) (.p Y3 (.p Y3 (.q Y3))) (.pd Y4) (u3 F150) (rws:=[47])
def F145:(El Y3)->(El ZR)->Option (El Y4):=fun h f=>
 Va
 (Va (F150 f.1 (0:Int) (Vc .i64 (h - (1:Int)))) fun i=>
 bif i then
 Va (F150 f.2.1 (0:Int) (Vc .i64 (h - (1:Int)))) fun j=>
 bif j then
 Va (F150 f.2.2.1 (0:Int) (3155932800:Int)) fun k=>
 bif k then
 Va (F150 f.2.2.2.2.1 (0:Int) (8:Int)) fun l=>
 bif l then
 Va (F150 f.2.2.2.2.2.1 (0:Int) (86400:Int)) fun m=>
 bif m then
 Va (F150 f.2.2.2.2.2.2.2.2.1 (0:Int) (255:Int)) fun n=>
 bif n then bif f.2.2.2.2.2.2.2.2.2.1 then some !f.2.2.2.1 else some !false else some false
 else some false
 else some false
 else some false
 else some false
 else some false)
 fun o=>some o
def F145E:Zj:=ZG 45 Tryz.f45 46 [F150E] (hS (.seq (.reg [(4,Y4)]) .leaf)) (.p Y3 (.q ZR)) (.pd Y4) (u2 F145) (rws:=[47])
def F143:(El ZH)->(El ZR)->Option (El Zr):=fun f h=>
 Va (F121 f) fun i=>
 bif !i then some (21:Int) else Va (F145 (↑(Vb f.1):Int) h) fun j=>bif !j then some (22:Int) else some (0:Int)
def F143E:Zj:=ZG 22 Tryz.f22 14 [F121E,F145E] .leaf (.p ZH (.q ZR)) (.pd Zr) (u2 F143) (rws:=[47])
def F206:(El ZH)->(El ZR)->Option (El Y4):=fun f h=>
 Va
 (Va (F120 f) fun i=>
 bif i then
 bif decide (h.2.2.2.2.1<=(3:Int)) then Va (F143 f h) fun j=>some (decide (j=(0:Int))) else some false
 else some false)
 fun k=>some k
def F206E:Zj:=ZG 6 Tryz.f6 18 [F120E,F143E] (hS (.seq (.reg [(4,Y4)]) .leaf)) (.p ZH (.q ZR)) (.pd Y4) (u2 F206)
def F77:(El Y9)->Option (El Y4):=fun h=>
 Va
 (run
 (fun s0=>
 bif decide (s0<(↑(Vb h):Int)) then
 Va (idx h s0) fun f=>
 Va (bif decide ((97:Int)<=(↑(Vd f):Int)) then some (decide ((↑(Vd f):Int)<=(122:Int))) else some false)
 fun k=>
 Va
 (bif k then some k
 else
 Va (bif decide ((65:Int)<=(↑(Vd f):Int)) then some (decide ((↑(Vd f):Int)<=(90:Int))) else some false)
 fun l=>
 Va
 (bif l then some l
 else
 Va
 (bif decide ((48:Int)<=(↑(Vd f):Int)) then some (decide ((↑(Vd f):Int)<=(57:Int))) else some false)
 fun m=>some m)
 fun n=>some n)
 fun o=>
 bif o then some (.inl (Vc .i64 (s0+(1:Int))))
 else
 Va
 (bif decide ((↑(Vd f):Int)=(45:Int)) then some (decide ((↑(Vd f):Int)=(45:Int)))
 else
 Va
 (bif decide ((↑(Vd f):Int)=(95:Int)) then some (decide ((↑(Vd f):Int)=(95:Int)))
 else some (decide ((↑(Vd f):Int)=(46:Int))))
 fun p=>some p)
 fun q=>bif q then some (.inl (Vc .i64 (s0+(1:Int)))) else some (.inr (.inr false))
 else some (.inr (.inl ())))
 (0:Int))
 fun r=>
 Ve
 (fun _=>
 Va (bif decide ((0:Int)<(↑(Vb h):Int)) then some (decide ((↑(Vb h):Int)<=(32:Int))) else some false) fun i=>
 some i)
 (fun j=>some j) r
def F77E:Zj:=ZG 137 Tryz.f137 48 [] (hS (.seq (hS (.lp (en [pd 3 Y3] [0]) [(.exit 0,en [] [0]),(.ret,en [pd 2 Y4] [])] (hS (.seq (hS (.seq (.seq (.reg [(14,Y4)]) (.cnd (some ((en [] [0,3,4]),[(.normal,en [pd 14 Y4] [0,3,4])])) .leaf (.seq (.reg [(14,Y4)]) (.cnd (some ((en [] [0,3,4]),[(.normal,en [pd 14 Y4] [0,3,4])])) .leaf (.reg [(14,Y4)]))))) (.cnd none .leaf (.seq (hS (.cnd (some ((en [] [0,3]),[(.normal,en [pd 33 Y4] [0,3])])) .leaf (hS (.cnd (some ((en [] [0,3]),[(.normal,en [pd 33 Y4] [0,3])])) .leaf .leaf)))) .leaf)))) .leaf)))) (.seq (.reg [(2,Y4)]) .leaf))) (.q Y9) (.pd Y4) (u1 F77)
def F203:(El Yp)->Option (El Y3×El Zr):=fun h=>
 bif decide ((64:Int)<(↑(Vb h):Int)) then some ((0:Int),(5:Int))
 else
 Va
 (run
 (fun s0=>
 bif decide (s0.2<(↑(Vb h):Int)) then
 Va (idx h s0.2) fun f=>
 Va (F77 f.1) fun j=>
 bif !j then some (.inr (.inr (s0.2,(12:Int))))
 else
 bif Vf (ZJ (Zl Y9) f.1 s0.1) (false) then some (.inr (.inr (s0.2,(6:Int))))
 else
 Va
 (bif decide (f.2.1<(0:Int)) then some true
 else
 bif decide ((16:Int)<=f.2.1) then some true
 else bif decide (f.2.2.2.1<(0:Int)) then some true else some (decide ((3600:Int)<f.2.2.2.1)))
 fun k=>
 bif k then some (.inr (.inr (s0.2,(2:Int))))
 else some (.inl (Z0 (Zl Y9) f.1 true s0.1,Vc .i64 (s0.2+(1:Int))))
 else some (.inr (.inl ())))
 ([],(0:Int)))
 fun l=>Ve (fun _=>some ((0:Int),(0:Int))) (fun i=>some (i.1,i.2)) l
def F203E:Zj:=Kd 96 Tryz.f96 54 [F77E] (hS (hS (hS (.seq (hS (.lp (en [(4,.map Y9 Y4),pd 13 Y3] [11,12]) [(.exit 0,e0),(.ret,en [pd 2 Y3,pd 3 Zr] [])] (hS (hS (.seq (hS (.seq (hS (.cnd none .leaf (hS (.cnd none .leaf (.seq (.reg [(30,Y4)]) .leaf))))) .leaf)) .leaf))))) .leaf)))) (.q Yp) (.p Y3 (.q Zr)) (u1 F203) (fun z=>(((),()),(z.1,z.2,()))) (fun y=>(y.2.1,y.2.2.1))
def F171:(El Y3)->Option (El Y4):=fun f=>Va (bif decide ((0:Int)<=f) then some (decide (f<(8:Int))) else some false) fun h=>some h
def F171E:Zj:=ZG 138 Tryz.f138 9 [] (hS (.seq (.reg [(2,Y4)]) .leaf)) (.q Y3) (.pd Y4) (u1 F171)
def F170:(El Yq)->Option (El Y3×El Zr):=fun h=>
 bif decide ((64:Int)<(↑(Vb h):Int)) then some ((0:Int),(5:Int))
 else
 Va
 (run
 (fun s0=>
 bif decide (s0.2<(↑(Vb h):Int)) then
 Va (idx h s0.2) fun f=>
 Va (F77 f.1) fun j=>
 bif !j then some (.inr (.inr (s0.2,(12:Int))))
 else
 bif Vf (ZJ (Zl Y9) f.1 s0.1) (false) then some (.inr (.inr (s0.2,(6:Int))))
 else
 Va (F171 f.2.1) fun k=>
 bif !k then some (.inr (.inr (s0.2,(2:Int))))
 else some (.inl (Z0 (Zl Y9) f.1 true s0.1,Vc .i64 (s0.2+(1:Int))))
 else some (.inr (.inl ())))
 ([],(0:Int)))
 fun l=>Ve (fun _=>some ((0:Int),(0:Int))) (fun i=>some (i.1,i.2)) l
def F170E:Zj:=Kd 97 Tryz.f97 37 [F77E,F171E] (hS (hS (hS (.seq (hS (.lp (en [(4,.map Y9 Y4),pd 13 Y3] [11,12]) [(.exit 0,e0),(.ret,en [pd 2 Y3,pd 3 Zr] [])] .leaf)) .leaf)))) (.q Yq) (.p Y3 (.q Zr)) (u1 F170) (fun z=>(((),()),(z.1,z.2,()))) (fun y=>(y.2.1,y.2.2.1))
def F92:(El Zfi)->Option (El KT):=fun f=>
 Va
 (run
 (fun s0=>
 bif decide (s0.2<(↑(Vb f):Int)) then
 Va (idx f s0.2) fun h=>
 bif !decide (h.2.2.1=(0:Int)) then some (.inr (.inr h)) else some (.inl (s0.1,Vc .i64 (s0.2+(1:Int))))
 else some (.inr (.inl s0.1)))
 (((0:Int),(0:Int),(0:Int),()),(0:Int)))
 fun i=>Ve (fun _=>some ((0:Int),(0:Int),(0:Int),())) (fun j=>some j) i
def F92E:Zj:=ZG 98 Tryz.f98 17 [] (hS (.seq (hS (.lp (en [(2,.var KT (.pd KT)),pd 7 Y3] [5,6]) [(.exit 0,en [(2,.var KT (.pd KT))] []),(.ret,en [(2,.var KT (.pd KT))] [])] .leaf)) .leaf)) (.q Zfi) (.pd KT) (u1 F92)
def F101:(El Y3)->(El Y3)->(El Zr)->Option (El KT):=fun f h i=>some (f,h,i,())
def F101E:Zj:=ZG 99 Tryz.f99 11 [] .leaf (.p Y3 (.p Y3 (.q Zr))) (.pd KT) (u3 F101)
def F7:(El X0)->(El Y3)->(El Y3)->(El Y3)->(El Y3)->Option (El Zr):=fun i h j k l=>
 Va (idx i h) fun f=>
 Va (bif decide (f.1<(0:Int)) then some true else some (decide (j<=f.1))) fun m=>
 bif m then some (9:Int)
 else
 Va
 (bif decide ((0:Int)<h) then Va (idx i (Vc .i64 (h - (1:Int)))) fun n=>some (decide (n.1=f.1))
 else some false)
 fun o=>
 bif o then some (13:Int)
 else
 Va
 (bif decide (f.2.1<k) then some true
 else
 bif decide (f.2.2.1<f.2.1) then some true
 else
 bif decide (l<f.2.2.1) then some true
 else
 bif decide ((0:Int)<h) then
 Va (idx i (Vc .i64 (h - (1:Int)))) fun p=>some (decide (f.2.1<p.2.2.1))
 else some false)
 fun q=>bif q then some (10:Int) else some (0:Int)
def F7E:Zj:=ZG 185 Tryz.f185 70 [] (hS (hS (.seq (.seq (.reg [(24,Y4)]) .leaf) (.seq (.seq (.reg [(37,Y4)]) .leaf) (.seq (.seq (.reg [(69,Y4)]) .leaf) .leaf))))) (.p X0 (.p Y3 (.p Y3 (.p Y3 (.q Y3))))) (.pd Zr) (u5 F7)
def F6:(El X0)->(El Y3)->(El Y3)->(El Y3)->Option (El Y3×El Zr):=fun f k l m=>
 Va (bif decide ((↑(Vb f):Int)<(2:Int)) then some true else some (decide ((32:Int)<(↑(Vb f):Int)))) fun n=>
 bif n then some ((0:Int),(5:Int))
 else
 Va
 (run
 (fun h=>
 bif decide (h<(↑(Vb f):Int)) then
 Va (F7 f h k l m) fun i=>
 bif !decide (i=(0:Int)) then some (.inr (.inr (h,i))) else some (.inl (Vc .i64 (h+(1:Int))))
 else some (.inr (.inl ())))
 (0:Int))
 fun o=>Ve (fun _=>some ((0:Int),(0:Int))) (fun j=>some (j.1,j.2)) o
def F6E:Zj:=Kd 139 Tryz.f139 36 [F7E] (hS (.seq (.seq (.reg [(19,Y4)]) .leaf) (.seq (hS (.lp (en [pd 22 Y3] [0,1,2,3,21]) [(.exit 0,e0),(.ret,en [pd 8 Y3,pd 9 Zr] [])] .leaf)) .leaf))) (.p X0 (.p Y3 (.p Y3 (.q Y3)))) (.p Y3 (.q Zr)) (u4 F6) (fun z=>(((),(),(),(),()),(z.1,z.2,()))) (fun y=>(y.2.1,y.2.2.1))
def F91:(El ZH)->Option (El KT):=fun i=>
 bif decide ((1024:Int)<(↑(Vb i.2.2.1):Int)) then Va (F101 (2:Int) (0:Int) (5:Int)) fun p=>some p
 else
 Va
 (run
 (fun h=>
 bif decide (h.2.2<(↑(Vb i.2.2.1):Int)) then
 Va (idx i.2.2.1 h.2.2) fun f=>
 Va (F77 f.2.2.2.1) fun q=>
 bif !q then Va (F101 (2:Int) h.2.2 (12:Int)) fun r=>some (.inr (.inr r))
 else
 Va (bif decide (f.1<(-1:Int)) then some true else some (decide (f.2.2.1<(0:Int)))) fun s=>
 bif s then Va (F101 (2:Int) h.2.2 (2:Int)) fun t=>some (.inr (.inr t))
 else
 Va (bif decide (f.2.1<(0:Int)) then some true else some (decide ((36524:Int)<f.2.1))) fun u=>
 bif u then Va (F101 (2:Int) h.2.2 (11:Int)) fun v=>some (.inr (.inr v))
 else
 Va
 (bif decide (f.2.2.2.2.1<(0:Int)) then some true
 else some (decide ((↑(Vb i.2.1):Int)<=f.2.2.2.2.1)))
 fun w=>
 bif w then Va (F101 (2:Int) h.2.2 (9:Int)) fun k=>some (.inr (.inr k))
 else
 Va (F6 f.2.2.2.2.2.2.2.1 (↑(Vb i.1):Int) (0:Int) (3155932800:Int)) fun j=>
 bif !decide (j.2=(0:Int)) then Va (F101 (2:Int) h.2.2 j.2) fun l=>some (.inr (.inr l))
 else
 bif Vf (ZJ (Zl GI) (f.2.2.2.1,f.2.1,f.2.2.1,()) h.2.1) (false) then
 Va (F101 (2:Int) h.2.2 (6:Int)) fun m=>some (.inr (.inr m))
 else
 some
 (.inl
 (h.1,Z0 (Zl GI) (f.2.2.2.1,f.2.1,f.2.2.1,()) true h.2.1,
 Vc .i64 (h.2.2+(1:Int))))
 else some (.inr (.inl h.1)))
 (((0:Int),(0:Int),(0:Int),()),[],(0:Int)))
 fun n=>Ve (fun _=>some ((0:Int),(0:Int),(0:Int),())) (fun o=>some o) n
def F91E:Zj:=ZG 100 Tryz.f100 96 [F101E,F77E,F6E] (hS (hS (hS (.seq (hS (.lp (en [(2,.var KT (.pd KT)),(3,.map GI Y4),pd 18 Y3] [1,16,17]) [(.exit 0,en [(2,.var KT (.pd KT))] []),(.ret,en [(2,.var KT (.pd KT))] [])] (hS (hS (.seq (hS (.seq (hS (.cnd none .leaf (.seq (.reg [(30,Y4)]) (.cnd none .leaf (.seq (.reg [(41,Y4)]) (.cnd none .leaf (.seq (.reg [(52,Y4)]) .leaf))))))) .leaf)) .leaf))))) .leaf)))) (.q ZH) (.pd KT) (u1 F91)
def F102:(El Y3)->(El Y3)->Option (El Y4):=fun f h=>Va (bif decide ((0:Int)<=f) then some (decide (f<h)) else some false) fun i=>some i
def F102E:Zj:=ZG 140 Tryz.f140 12 [] (hS (.seq (.reg [(4,Y4)]) .leaf)) (.p Y3 (.q Y3)) (.pd Y4) (u2 F102)
def F100:(List (El Y3×El Y3))->(El Y3)->(El Y3)->Option (List (El Y3×El Y3) ×El Y4):=fun f h i=>
 Va
 (run
 (fun s0=>
 bif s0.2 then
 bif decide (s0.1=i) then some (.inr (.inr true))
 else some (.inl (Vf (ZJ (Zl Y3) s0.1 f) ((0:Int)),Vk (ZJ (Zl Y3) s0.1 f)))
 else some (.inr (.inl ())))
 (Vf (ZJ (Zl Y3) h f) ((0:Int)),Vk (ZJ (Zl Y3) h f)))
 fun j=>Ve (fun _=>some (f,false)) (fun k=>some (f,k)) j
def F100E:Zj:=Kd 141 Tryz.f141 25 [] (hS (.seq (hS (.lp (en [pd 7 Y3,pd 8 Y4] [0,2]) [(.exit 0,en [] [0]),(.ret,en [pd 6 Y4] [0])] .leaf)) .leaf)) (.cons (.map Y3 Y3) (.p Y3 (.q Y3))) (.q Y4) (u3 F100) (fun z=>((z.1,(),(),()),(z.2,()))) (fun y=>(y.1.1,y.2.1))
def F89:(El ZH)->Option (El KT):=fun i=>
 bif decide ((1024:Int)<(↑(Vb i.2.2.2.1):Int)) then Va (F101 (3:Int) (0:Int) (5:Int)) fun C=>some C
 else
 Va
 (run
 (fun h=>
 bif decide (h.2.2.2.2<(↑(Vb i.2.2.2.1):Int)) then
 Va (idx i.2.2.2.1 h.2.2.2.2) fun f=>
 Va
 (Va (F102 f.1 (↑(Vb i.2.2.1):Int)) fun D=>
 bif !D then some true
 else
 Va (F102 f.2.2.1 (↑(Vb i.2.2.1):Int)) fun E=>
 bif !E then some true else some (decide (f.1=f.2.2.1)))
 fun F=>
 bif F then Va (F101 (3:Int) h.2.2.2.2 (9:Int)) fun G=>some (.inr (.inr G))
 else
 Va (idx i.2.2.1 f.1) fun y=>
 Va (idx i.2.2.1 f.2.2.1) fun B=>
 Va
 (Va (F102 f.2.1 (↑(Vb y.2.2.2.2.2.2.2.1):Int)) fun H=>
 bif !H then some true
 else Va (F102 f.2.2.2.1 (↑(Vb B.2.2.2.2.2.2.2.1):Int)) fun k=>some !k)
 fun l=>
 bif l then Va (F101 (3:Int) h.2.2.2.2 (9:Int)) fun m=>some (.inr (.inr m))
 else
 Va (idx y.2.2.2.2.2.2.2.1 f.2.1) fun n=>
 Va (idx B.2.2.2.2.2.2.2.1 f.2.2.2.1) fun o=>
 bif !decide (n.1=o.1) then Va (F101 (3:Int) h.2.2.2.2 (13:Int)) fun p=>some (.inr (.inr p))
 else
 bif f.2.2.2.2.1 then
 bif !decide (Vc .i64 (f.2.1+(1:Int))=(↑(Vb y.2.2.2.2.2.2.2.1):Int)) then
 Va (F101 (3:Int) h.2.2.2.2 (19:Int)) fun q=>some (.inr (.inr q))
 else
 bif !decide (f.2.2.2.1=(0:Int)) then
 Va (F101 (3:Int) h.2.2.2.2 (19:Int)) fun r=>some (.inr (.inr r))
 else
 bif Vk (ZJ (Zl Y3) f.1 h.2.1) then
 Va (F101 (3:Int) h.2.2.2.2 (19:Int)) fun s=>some (.inr (.inr s))
 else
 bif Vf (ZJ (Zl Y3) f.2.2.1 h.2.2.1) (false) then
 Va (F101 (3:Int) h.2.2.2.2 (19:Int)) fun t=>some (.inr (.inr t))
 else
 Va (F100 h.2.1 f.2.2.1 f.1) fun j=>
 bif j.2 then Va (F101 (3:Int) h.2.2.2.2 (19:Int)) fun u=>some (.inr (.inr u))
 else
 bif Vf (ZJ (Zl Jd) [f.1,f.2.1,f.2.2.1,f.2.2.2.1] h.2.2.2.1) (false) then
 Va (F101 (3:Int) h.2.2.2.2 (6:Int)) fun v=>some (.inr (.inr v))
 else
 bif f.2.2.2.2.1 then
 some
 (.inl
 (h.1,Z0 (Zl Y3) f.1 f.2.2.1 j.1,Z0 (Zl Y3) f.2.2.1 true h.2.2.1,
 Z0 (Zl Jd) [f.1,f.2.1,f.2.2.1,f.2.2.2.1] true h.2.2.2.1,
 Vc .i64 (h.2.2.2.2+(1:Int))))
 else
 some
 (.inl
 (h.1,j.1,h.2.2.1,Z0 (Zl Jd) [f.1,f.2.1,f.2.2.1,f.2.2.2.1] true h.2.2.2.1,
 Vc .i64 (h.2.2.2.2+(1:Int))))
 else
 bif Vf (ZJ (Zl Jd) [f.1,f.2.1,f.2.2.1,f.2.2.2.1] h.2.2.2.1) (false) then
 Va (F101 (3:Int) h.2.2.2.2 (6:Int)) fun w=>some (.inr (.inr w))
 else
 bif f.2.2.2.2.1 then
 some
 (.inl
 (h.1,Z0 (Zl Y3) f.1 f.2.2.1 h.2.1,Z0 (Zl Y3) f.2.2.1 true h.2.2.1,
 Z0 (Zl Jd) [f.1,f.2.1,f.2.2.1,f.2.2.2.1] true h.2.2.2.1,
 Vc .i64 (h.2.2.2.2+(1:Int))))
 else
 some
 (.inl
 (h.1,h.2.1,h.2.2.1,Z0 (Zl Jd) [f.1,f.2.1,f.2.2.1,f.2.2.2.1] true h.2.2.2.1,
 Vc .i64 (h.2.2.2.2+(1:Int))))
 else some (.inr (.inl h.1)))
 (((0:Int),(0:Int),(0:Int),()),[],[],[],(0:Int)))
 fun x=>Ve (fun _=>some ((0:Int),(0:Int),(0:Int),())) (fun A=>some A) x
def F89E:Zj:=ZG 101 Tryz.f101 171 [F101E,F102E,F100E] (hS (hS (hS (hS (.seq (hS (.lp (en [(2,.var KT (.pd KT)),(3,.map Y3 Y3),(4,.map Y3 Y4),(5,.map Jd Y4),pd 24 Y3] [1,22,23]) [(.exit 0,en [(2,.var KT (.pd KT))] []),(.ret,en [(2,.var KT (.pd KT))] [])] (hS (hS (.seq (hS (.seq (.seq (.reg [(51,Y4)]) .leaf) (hS (.seq (.seq (.reg [(81,Y4)]) .leaf) .leaf)))) .leaf))))) .leaf))))) (.q ZH) (.pd KT) (u1 F89)
def F114:(El Y3)->(El Y3)->(El Y3)->Option (El Y4):=fun f h i=>Va (bif decide (h<=f) then some (decide (f<=i)) else some false) fun j=>some j
def F114E:Zj:=ZG 142 Tryz.f142 15 [] (hS (.seq (.reg [(6,Y4)]) .leaf)) (.p Y3 (.p Y3 (.q Y3))) (.pd Y4) (u3 F114)
def F110:(El KU)->Option (El Y3×El Zr):=fun i=>
 Va
 (Va (F114 i.2.1 (0:Int) (1000000:Int)) fun o=>
 bif !o then some true
 else
 Va (F114 i.2.2.1 (0:Int) (86400:Int)) fun p=>
 bif !p then some true else Va (F114 i.2.2.2.1 (0:Int) (1000000:Int)) fun q=>some !q)
 fun r=>
 bif r then some ((-1:Int),(2:Int))
 else
 bif decide ((16:Int)<(↑(Vb i.1):Int)) then some ((0:Int),(5:Int))
 else
 Va
 (run
 (fun f=>
 bif decide (f.2<(↑(Vb i.1):Int)) then
 Va (idx i.1 f.2) fun h=>
 Va (F77 h.1) fun s=>
 bif !s then some (.inr (.inr (f.2,(12:Int))))
 else
 bif Vf (ZJ (Zl Y9) h.1 f.1) (false) then some (.inr (.inr (f.2,(6:Int))))
 else
 Va
 (Va (F114 h.2.1 (0:Int) (1000000:Int)) fun t=>
 bif !t then some true
 else
 Va (F114 h.2.2.1 (1:Int) (8:Int)) fun u=>
 bif !u then some true
 else
 Va (F114 h.2.2.2.1 (1:Int) (16:Int)) fun v=>
 bif !v then some true
 else
 Va (F114 h.2.2.2.2.1 (0:Int) (86400:Int)) fun k=>
 bif !k then some true else Va (F114 h.2.2.2.2.2.1 (1:Int) (255:Int)) fun l=>some !l)
 fun m=>
 bif m then some (.inr (.inr (f.2,(2:Int))))
 else some (.inl (Z0 (Zl Y9) h.1 true f.1,Vc .i64 (f.2+(1:Int))))
 else some (.inr (.inl ())))
 ([],(0:Int)))
 fun n=>Ve (fun _=>some ((0:Int),(0:Int))) (fun j=>some (j.1,j.2)) n
def F110E:Zj:=Kd 102 Tryz.f102 79 [F77E,F114E] (hS (.seq (.seq (.reg [(22,Y4)]) .leaf) (hS (hS (.seq (hS (.lp (en [(4,.map Y9 Y4),pd 31 Y3] [29,30]) [(.exit 0,e0),(.ret,en [pd 2 Y3,pd 3 Zr] [])] (hS (hS (.seq (hS (hS (hS (.seq (.seq (.reg [(73,Y4)]) .leaf) .leaf)))) .leaf))))) .leaf))))) (.q KU) (.p Y3 (.q Zr)) (u1 F110) (fun z=>(((),()),(z.1,z.2,()))) (fun y=>(y.2.1,y.2.2.1))
def F60:(El WI)->(El Y3)->Option (El Y3×El Zr):=fun i h=>
 Va
 (run
 (fun s0=>
 bif decide (s0.2<(↑(Vb i):Int)) then
 Va (idx i s0.2) fun f=>
 Va
 (bif decide (f.1<(0:Int)) then some (decide (f.1<(0:Int)))
 else
 Va
 (bif decide (h<=f.1) then some (decide (h<=f.1))
 else
 Va
 (bif decide (f.2.1<(0:Int)) then some (decide (f.2.1<(0:Int)))
 else
 Va (bif decide (h<=f.2.1) then some (decide (h<=f.2.1)) else some (decide (f.1=f.2.1))) fun k=>
 some k)
 fun l=>some l)
 fun m=>some m)
 fun n=>
 bif n then some (.inr (.inr (s0.2,(9:Int))))
 else
 Va
 (bif decide (f.2.2.1<(1:Int)) then some (decide (f.2.2.1<(1:Int)))
 else some (decide ((14400:Int)<f.2.2.1)))
 fun o=>
 bif o then some (.inr (.inr (s0.2,(2:Int))))
 else
 bif Vf (ZJ (Zl XZ) (f.1,f.2.1,f.2.2.2.1,()) s0.1) (false) then some (.inr (.inr (s0.2,(6:Int))))
 else some (.inl (Z0 (Zl XZ) (f.1,f.2.1,f.2.2.2.1,()) true s0.1,Vc .i64 (s0.2+(1:Int))))
 else some (.inr (.inl ())))
 ([],(0:Int)))
 fun p=>Ve (fun _=>some ((0:Int),(0:Int))) (fun j=>some (j.1,j.2)) p
def F60E:Zj:=Kd 186 Tryz.f186 62 [] (hS (hS (.seq (hS (.lp (en [(6,.map XZ Y4),pd 13 Y3] [1,11,12]) [(.exit 0,e0),(.ret,en [pd 4 Y3,pd 5 Zr] [])] (hS (hS (.seq (hS (hS (.seq (.seq (hS (.cnd (some ((en [] [1,6,7,8,9,11,12,13]),[(.normal,en [pd 25 Y4] [1,6,7,8,9,11,12,13])])) .leaf (hS (.cnd (some ((en [] [1,6,7,8,9,11,12,13]),[(.normal,en [pd 25 Y4] [1,6,7,8,9,11,12,13])])) .leaf (hS (.cnd (some ((en [] [1,6,7,8,9,11,12,13]),[(.normal,en [pd 25 Y4] [1,6,7,8,9,11,12,13])])) .leaf (hS (.cnd (some ((en [] [1,6,7,8,9,11,12,13]),[(.normal,en [pd 25 Y4] [1,6,7,8,9,11,12,13])])) .leaf .leaf)))))))) (.cnd none .leaf (.seq (hS (.cnd (some ((en [] [1,6,7,9,11,12,13]),[(.normal,en [pd 46 Y4] [1,6,7,9,11,12,13])])) .leaf .leaf)) .leaf))) .leaf))) .leaf))))) .leaf))) (.p WI (.q Y3)) (.p Y3 (.q Zr)) (u2 F60) (fun z=>(((),(),()),(z.1,z.2,()))) (fun y=>(y.2.1,y.2.2.1))
def F191:(El Y3)->(El Y3)->Option (El Y4):=fun f h=>Va (bif decide (f<(0:Int)) then some true else some (decide (h<=f))) fun i=>some i
def F191E:Zj:=ZG 264 Tryz.f264 11 [] (hS (.seq (.reg [(3,Y4)]) .leaf)) (.p Y3 (.cons (.ro Y3) .nil)) (.pd Y4) (u2 F191)
def F190:(El Y3)->(El DR)->(El YP)->Option (El Zr):=fun f i p=>
 Va (bif decide (f<(0:Int)) then some true else some (decide ((64:Int)<f))) fun q=>
 bif q then some (2:Int)
 else
 bif decide ((4096:Int)<(↑(Vb i):Int)) then some (5:Int)
 else
 Va
 (run
 (fun j=>
 bif decide (j<(↑(Vb i):Int)) then
 Va (idx i j) fun h=>
 Va (F191 h.1 f) fun r=>
 bif r then some (.inr (.inr (9:Int)))
 else
 Va (F191 h.2.1 f) fun s=>
 bif s then some (.inr (.inr (9:Int)))
 else
 Va (bif decide (h.2.2.1<(0:Int)) then some true else some (decide ((1073741824:Int)<h.2.2.1))) fun t=>
 bif t then some (.inr (.inr (2:Int))) else some (.inl (Vc .i64 (j+(1:Int))))
 else some (.inr (.inl ())))
 (0:Int))
 fun u=>
 Ve
 (fun _=>
 Va
 (run
 (fun k=>
 bif decide (k<(↑(Vb p):Int)) then
 Va (idx p k) fun v=>
 Va (F191 v f) fun l=>
 bif l then some (.inr (.inr (9:Int))) else some (.inl (Vc .i64 (k+(1:Int))))
 else some (.inr (.inl ())))
 (0:Int))
 fun m=>Ve (fun _=>some (0:Int)) (fun n=>some n) m)
 (fun o=>some o) u
def F190E:Zj:=ZG 253 Tryz.f253 57 [F191E] (hS (.seq (.seq (.reg [(17,Y4)]) .leaf) (hS (hS (.seq (hS (.lp (en [pd 24 Y3] [2,7,22,23]) [(.exit 0,en [] [2,7]),(.ret,en [pd 6 Zr] [])] (hS (hS (.seq (hS (hS (.seq (.reg [(45,Y4)]) .leaf))) .leaf))))) (.seq (hS (.lp (en [pd 49 Y3] [7,47,48]) [(.exit 2,e0),(.ret,en [pd 6 Zr] [])] .leaf)) .leaf)))))) (.p Y3 (.p DR (.q YP))) (.pd Zr) (u3 F190)
def F195:(El DR)->(El Y4)->Option (List (El Y3×List (El YQ))):=fun i j=>
 Va
 (run
 (fun s0=>
 bif decide (s0.2<(↑(Vb i):Int)) then
 Va (idx i s0.2) fun h=>
 Va (bif j then some (h.2.1,h.1,h.2.2) else some h) fun f=>
 Va (ZF (decide (Vb (Vf (ZJ (Zl Y3) f.1 s0.1) [])+Vb [f]<=ZC))) fun _=>
 Va (ZF (Tr.holeK Y3 (some f.1) f.1)) fun _=>
 some (.inl (Z0 (Zl Y3) f.1 (Vf (ZJ (Zl Y3) f.1 s0.1) []++[f]) s0.1,Vc .i64 (s0.2+(1:Int))))
 else some (.inr s0.1))
 ([],(0:Int)))
 fun k=>some k
def F195E:Zj:=ZG 254 Tryz.f254 34 [] (hS (hS (.seq (hS (.lp (en [(5,.mrows Y3 YQ),pd 11 Y3] [1,9,10]) [(.exit 0,en [(5,.mrows Y3 YQ)] [])] (hS (hS (.seq (hS (.seq (hS (.cnd (some ((en [] [1,5,9,10,11]),[(.normal,en [(7,.var YQ (.pd YQ))] [1,5,9,10,11])])) .leaf .leaf)) .leaf)) .leaf))))) .leaf))) (.p DR (.q Y4)) (.mrows Y3 YQ) (u2 F195) (rws:=[310])
def F193:(El ZbC)->Option (El YP):=fun h=>
 Va
 (ZF
 (decide
 ((0:El (Tr.Ty.int .i64))<=(↑(Vb h):Int)/\
 (↑(Vb h):Int)<=(↑(Vb h):Int)/\(↑(Vb h):Int)<=(↑ZC:El (Tr.Ty.int .i64)))))
 fun _=>
 Va
 (run
 (fun f=>
 bif decide (f.2<(↑(Vb h):Int)) then
 Va (idx h f.2) fun j=>
 Va (Zn f.2 (Vb f.1)) fun i=>
 Va f.1[i]? fun _=>some (.inl (Vg f.1 i j.2.1,Vc .i64 (f.2+(1:Int))))
 else some (.inr f.1))
 (Vh (Vi (↑(Vb h):Int)) ((0:Int)),(0:Int)))
 fun k=>some k
def F193E:Zj:=ZG 255 Tryz.f255 23 [] (hS (hS (.seq (hS (.lp (en [(3,.own Y3 false),pd 11 Y3] [9,10]) [(.exit 0,en [(3,.own Y3 false)] [])] .leaf)) .leaf))) (.q ZbC) (.pd YP) (u1 F193)
def F194:(El XJ)->(El XJ)->Option (El Y4):=fun f h=>
 Va
 (bif decide (f.2.1<h.2.1) then some true
 else bif decide (f.2.1=h.2.1) then some (decide (f.2.2.1<h.2.2.1)) else some false)
 fun i=>some i
def F194E:Zj:=ZG 266 Tryz.f266 24 [] (hS (.seq (.reg [(4,Y4)]) .leaf)) (.p XJ (.q XJ)) (.pd Y4) (u2 F194)
def F72:(Yo)->(El Y3)->(El Y3)->Option (Yo×El Y4):=fun f j k=>
 Va (Zn j (Vb f.2.1)) fun l=>
 Va f.2.1[l]? fun h=>
 Va (Zn k (Vb f.2.1)) fun m=>
 Va f.2.1[m]? fun i=>
 Va (F194 h.1 i.1) fun n=>
 bif n then some (((),f.2.1,f.2.2.1,()),true)
 else
 Va (F194 i.1 h.1) fun o=>
 bif o then some (((),f.2.1,f.2.2.1,()),false) else some (((),f.2.1,f.2.2.1,()),decide (h.2.1<i.2.1))
def F72E:Zj:=Kd 272 Tryz.f272 46 [F194E] .leaf (.cons DM (.p Y3 (.q Y3))) (.q Y4) (u3 F72) (fun z=>((z.1,(),(),()),(z.2,()))) (fun y=>(y.1.1,y.2.1))
def F74:(Yo)->(El Y3)->(El Y3)->Option (Yo):=fun f j k=>
 Va (Zn k (Vb f.2.1)) fun m=>
 Va f.2.1[m]? fun i=>
 Va (Zn j (Vb f.2.1)) fun n=>
 Va f.2.1[n]? fun o=>
 Va (Zn j (Vb f.2.1)) fun h=>
 Va f.2.1[h]? fun _=>
 Va (Zn k (Vb (Vg f.2.1 h i))) fun l=>
 Va (Vg f.2.1 h i)[l]? fun _=>some ((),Vg (Vg f.2.1 h i) l o,f.2.2.1,())
def F74E:Zj:=Kd 273 Tryz.f273 32 [F194E] .leaf (.cons DM (.p Y3 (.q Y3))) .nil (u3 F74) (fun z=>((z,(),(),()),())) (fun y=>y.1.1)
def F71:(Yo)->(El XJ)->Option (Yo):=fun h j=>
 Va (ZF (decide (Vb h.2.1+Vb [(j,h.2.2.1,())]<=ZC))) fun _=>
 Va
 (run
 (fun f=>
 bif decide ((0:Int)<f.2) then
 Va
 (F72 ((),f.1.2.1,f.1.2.2.1,()) f.2
 (Vc .i64 (Vn (Vc .i64 (f.2 - (1:Int))) (2:Int))))
 fun i=>
 bif i.2 then
 Va
 (F74 ((),i.1.2.1,i.1.2.2.1,()) f.2
 (Vc .i64 (Vn (Vc .i64 (f.2 - (1:Int))) (2:Int))))
 fun k=>some (.inl (((),k.2.1,k.2.2.1,()),Vc .i64 (Vn (Vc .i64 (f.2 - (1:Int))) (2:Int))))
 else some (.inr ((),i.1.2.1,i.1.2.2.1,()))
 else some (.inr ((),f.1.2.1,f.1.2.2.1,())))
 (((),h.2.1++[(j,h.2.2.1,())],Vc .i64 (h.2.2.1+(1:Int)),()),
 Vc .i64 ((↑(Vb (h.2.1++[(j,h.2.2.1,())])):Int) - (1:Int))))
 fun l=>some ((),l.2.1,l.2.2.1,())
def F71E:Zj:=Kd 267 Tryz.f267 54 [F194E,F72E,F74E] (hS (hS (hS (hS (hS (.lp (en [(0,RD),pd 4 Y3] []) [(.exit 0,en [(0,RD)] [])] .leaf)))))) (.cons DM (.q XJ)) .nil (u2 F71) (fun z=>((z,(),()),())) (fun y=>y.1.1)
def F68:(Yo)->Option (Yo×El Y3):=fun f=>some (((),f.2.1,f.2.2.1,()),(↑(Vb f.2.1):Int))
def F68E:Zj:=Kd 277 Tryz.f277 10 [F194E] .leaf (.cons DM .nil) (.q Y3) (u1 F68) (fun z=>((z.1,()),(z.2,()))) (fun y=>(y.1.1,y.2.1))
def F69:(Yo)->Option (Yo×El XJ×El Y4):=fun h=>
 Va (F68 ((),h.2.1,h.2.2.1,())) fun f=>
 bif decide (f.2=(0:Int)) then some (((),f.1.2.1,f.1.2.2.1,()),((0:Int),(0:Int),(0:Int),()),false)
 else Va (Zn (0:Int) (Vb f.1.2.1)) fun i=>Va f.1.2.1[i]? fun j=>some (((),f.1.2.1,f.1.2.2.1,()),j.1,true)
def F69E:Zj:=Kd 274 Tryz.f274 16 [F194E,F68E] .leaf (.cons DM .nil) (.p XJ (.q Y4)) (u1 F69) (fun z=>((z.1,()),(z.2.1,z.2.2,()))) (fun y=>(y.1.1,y.2.1,y.2.2.1))
def F73:(Yo)->Option (Yo):=fun k=>
 Va
 (run
 (fun s0=>
 bif decide ((↑(Vb s0.1.2.1):Int)<=Vc .i64 (Vc .i64 ((2:Int) *s0.2)+(1:Int))) then
 some (.inr ((),s0.1.2.1,s0.1.2.2.1,()))
 else
 bif
 decide
 (Vc .i64 (Vc .i64 (Vc .i64 ((2:Int) *s0.2)+(1:Int))+(1:Int))<
 (↑(Vb s0.1.2.1):Int)) then
 Va
 (F72 ((),s0.1.2.1,s0.1.2.2.1,())
 (Vc .i64 (Vc .i64 (Vc .i64 ((2:Int) *s0.2)+(1:Int))+(1:Int)))
 (Vc .i64 (Vc .i64 ((2:Int) *s0.2)+(1:Int))))
 fun i=>
 Va
 (bif i.2 then some (Vc .i64 (Vc .i64 (Vc .i64 ((2:Int) *s0.2)+(1:Int))+(1:Int)))
 else some (Vc .i64 (Vc .i64 ((2:Int) *s0.2)+(1:Int))))
 fun j=>
 Va (F72 ((),i.1.2.1,i.1.2.2.1,()) j s0.2) fun f=>
 bif !f.2 then some (.inr ((),f.1.2.1,f.1.2.2.1,()))
 else Va (F74 ((),f.1.2.1,f.1.2.2.1,()) s0.2 j) fun l=>some (.inl (((),l.2.1,l.2.2.1,()),j))
 else
 Va
 (F72 ((),s0.1.2.1,s0.1.2.2.1,()) (Vc .i64 (Vc .i64 ((2:Int) *s0.2)+(1:Int))) s0.2)
 fun h=>
 bif !h.2 then some (.inr ((),h.1.2.1,h.1.2.2.1,()))
 else
 Va
 (F74 ((),h.1.2.1,h.1.2.2.1,()) s0.2
 (Vc .i64 (Vc .i64 ((2:Int) *s0.2)+(1:Int))))
 fun m=>some (.inl (((),m.2.1,m.2.2.1,()),Vc .i64 (Vc .i64 ((2:Int) *s0.2)+(1:Int)))))
 (((),k.2.1,k.2.2.1,()),(0:Int)))
 fun n=>some ((),n.2.1,n.2.2.1,())
def F73E:Zj:=Kd 275 Tryz.f275 41 [F194E,F72E,F74E] (hS (.lp (en [(0,RD),pd 2 Y3] []) [(.ret,en [(0,RD)] [])] (hS (hS (.seq (hS (.cnd (some ((en [] [0,2]),[(.normal,en [pd 3 Y3] [0,2])])) .leaf .leaf)) .leaf))))) (.cons DM .nil) .nil (u1 F73) (fun z=>((z,()),())) (fun y=>y.1.1)
def F70:(Yo)->Option (Yo×El XJ×El Y4):=fun i=>
 Va (F69 ((),i.2.1,i.2.2.1,())) fun f=>
 bif !f.2.2 then some (((),f.1.2.1,f.1.2.2.1,()),f.2.1,false)
 else
 Va (F74 ((),f.1.2.1,f.1.2.2.1,()) (0:Int) (Vc .i64 ((↑(Vb f.1.2.1):Int) - (1:Int))))
 fun h=>
 Va (sliceB (Vb h.2.1) (Vb h.2.1) none (some (Vc .i64 ((↑(Vb f.1.2.1):Int) - (1:Int)))))
 fun k=>
 Va (F73 ((),Vj k.2 h.2.1,h.2.2.1,())) fun j=>some (((),j.2.1,j.2.2.1,()),f.2.1,true)
def F70E:Zj:=Kd 268 Tryz.f268 36 [F194E,F74E,F69E,F73E] .leaf (.cons DM .nil) (.p XJ (.q Y4)) (u1 F70) (fun z=>((z.1,()),(z.2.1,z.2.2,()))) (fun y=>(y.1.1,y.2.1,y.2.2.1))
def F76:(Unit)->Option (Yo):=fun _=>some ((),[],(0:Int),())
def F76E:Zj:=Kd 265 Tryz.f265 8 [F194E] .leaf (.cons (.fn 266 .nil) .nil) (.cons DM .nil) (u1 F76) (fun z=>(((),()),(z,()))) (fun y=>y.2.1) (fns:=[266])
def F192:(El Y3)->(List (El Y3×List (El YQ)))->(El Y3)->Option (List (El Y3×List (El YQ)) ×El ZbC):=fun m p y=>
 Va (ZF (decide ((0:El (Tr.Ty.int .i64))<=m/\m<=m/\m<=(↑ZC:El (Tr.Ty.int .i64))))) fun _=>
 Va
 (run
 (fun k=>
 bif decide (k.2<(↑(Vb (Vh (Vi m) (((0:Int),(0:Int),(0:Int),())))):Int)) then
 Va (Zn k.2 (Vb k.1)) fun v=>
 Va k.1[v]? fun _=>some (.inl (Vg k.1 v (k.2,(-1:Int),(-1:Int),()),Vc .i64 (k.2+(1:Int))))
 else some (.inr k.1))
 (Vh (Vi m) (((0:Int),(0:Int),(0:Int),())),(0:Int)))
 fun A=>
 Va (F76 ()) fun w=>
 Va (F71 ((),w.2.1,w.2.2.1,()) (y,(0:Int),(0:Int),())) fun x=>
 Va
 (run
 (fun i=>
 Va (F70 ((),i.2.2.1,i.2.2.2.1,())) fun h=>
 bif !h.2.2 then some (.inr i.1)
 else
 Va (Zn h.2.1.1 (Vb i.1)) fun B=>
 Va i.1[B]? fun q=>
 bif decide ((0:Int)<=q.2.2.1) then some (.inl (i.1,(),h.1.2.1,h.1.2.2.1,()))
 else
 Va (Zn h.2.1.1 (Vb i.1)) fun j=>
 Va i.1[j]? fun _=>
 Va
 (run
 (fun f=>
 bif decide (f.2<(↑(Vb (Vf (ZJ (Zl Y3) h.2.1.1 p) [])):Int)) then
 Va (Zn f.2 (Vb (Vf (ZJ (Zl Y3) h.2.1.1 p) []))) fun r=>
 Va (Vf (ZJ (Zl Y3) h.2.1.1 p) [])[r]? fun l=>
 Va (Zn l.2.1 (Vb (Vg i.1 j h.2.1))) fun s=>
 Va (Vg i.1 j h.2.1)[s]? fun t=>
 bif decide (t.2.2.1<(0:Int)) then
 Va
 (F71 ((),f.1.2.1,f.1.2.2.1,())
 (l.2.1,Vc .i64 (h.2.1.2.1+l.2.2.1),
 Vc .i64 (h.2.1.2.2.1+(1:Int)),()))
 fun n=>some (.inl (((),n.2.1,n.2.2.1,()),Vc .i64 (f.2+(1:Int))))
 else some (.inl (((),f.1.2.1,f.1.2.2.1,()),Vc .i64 (f.2+(1:Int))))
 else some (.inr ((),f.1.2.1,f.1.2.2.1,())))
 (((),h.1.2.1,h.1.2.2.1,()),(0:Int)))
 fun o=>some (.inl (Vg i.1 j h.2.1,(),o.2.1,o.2.2.1,())))
 (A,(),x.2.1,x.2.2.1,()))
 fun u=>some (p,u)
def F192E:Zj:=Kd 256 Tryz.f256 82 [F76E,F194E,F71E,F70E] (hS (hS (.seq (hS (.lp (en [(7,.own XJ false),pd 18 Y3] [1,2,17]) [(.exit 0,en [(7,.own XJ false)] [1,2])] .leaf)) (hS (hS (.lp (en [(7,.own XJ false),(9,RD)] [1]) [(.ret,en [(6,.own XJ false)] [1])] (hS (hS (hS (hS (hS (.lp (en [(9,RD),pd 57 Y3] [1,7,10,55,56]) [(.exit 4,en [(9,RD)] [1,7])] .leaf)))))))))))) (.p Y3 (.cons (.mrows Y3 YQ) (.q Y3))) (.q ZbC) (u3 F192) (fun z=>(((),z.1,(),()),(z.2,()))) (fun y=>(y.1.2.1,y.2.1))
def F189:(El Y3)->(El DR)->Option (El RE×El Zr):=fun h i=>
 Va (F190 h i []) fun j=>
 bif !decide (j=(0:Int)) then some ([],j)
 else
 Va (F195 i false) fun m=>
 Va (ZF (decide ((0:El (Tr.Ty.int .i64))<=h/\h<=h/\h<=(↑ZC:El (Tr.Ty.int .i64))))) fun _=>
 Va
 (run
 (fun f=>
 bif decide (f.2.2<(↑(Vb (Vh (Vi h) (([]:List (El Y3))))):Int)) then
 Va (F192 h f.1 f.2.2) fun k=>
 Va (F193 k.2) fun n=>
 Va (Zn f.2.2 (Vb f.2.1)) fun l=>
 Va f.2.1[l]? fun _=>some (.inl (k.1,Vg f.2.1 l n,Vc .i64 (f.2.2+(1:Int))))
 else some (.inr f.2.1))
 (m,Vh (Vi h) (([]:List (El Y3))),(0:Int)))
 fun o=>some (o,(0:Int))
def F189E:Zj:=Kd 247 Tryz.f247 35 [F190E,F195E,F193E,F192E] (hS (hS (hS (hS (hS (.seq (hS (.lp (en [(7,.mrows Y3 YQ),(8,.own YP false),pd 22 Y3] [0,21]) [(.exit 0,en [(8,.own YP false)] [])] .leaf)) .leaf)))))) (.p Y3 (.q DR)) (.p RE (.q Zr)) (u2 F189) (fun z=>(((),(),()),(z.1,z.2,()))) (fun y=>(y.2.1,y.2.2.1))
def F59:(El WI)->(El Y3)->(El Y4)->Option (El RE):=fun m o p=>
 Va
 (run
 (fun s0=>
 bif decide (s0.2<(↑(Vb m):Int)) then
 Va (idx m s0.2) fun h=>
 Va (bif p then some !h.2.2.2.1 else some false) fun q=>
 bif q then some (.inl (s0.1,Vc .i64 (s0.2+(1:Int))))
 else
 Va
 (bif !Vk (ZJ (Zl XZ) (h.1,h.2.1,false,()) s0.1) then some true
 else some (decide (h.2.2.1<Vf (ZJ (Zl XZ) (h.1,h.2.1,false,()) s0.1) ((0:Int)))))
 fun r=>
 bif r then some (.inl (Z0 (Zl XZ) (h.1,h.2.1,false,()) h.2.2.1 s0.1,Vc .i64 (s0.2+(1:Int))))
 else some (.inl (s0.1,Vc .i64 (s0.2+(1:Int))))
 else some (.inr s0.1))
 ([],(0:Int)))
 fun l=>
 Va
 (ZF
 (decide ((0:El (Tr.Ty.int .i64))<=(0:Int)/\(0:Int)<=(↑(Vb l):Int)/\(↑(Vb l):Int)<=(↑ZC:El (Tr.Ty.int .i64)))))
 fun _=>
 Tr.drun (fun f=>bif Vm f.2 then(1:Nat) else Vb f.2)
 (fun f n=>
 bif Vm f.2 then some (.inr f.1)
 else
 Va f.2[n]? fun i=>
 Va (ZF (decide (Vb f.1+Vb [(i.1.1,i.1.2.1,i.2,())]<=ZC))) fun _=>
 some (.inl (f.1++[(i.1.1,i.1.2.1,i.2,())],List.eraseIdx f.2 n)))
 (fun j=>Va (F189 o j) fun k=>some k.1) (Vh (Vi (0:Int)) (((0:Int),(0:Int),(0:Int),())),l)
def F59E:Zj:=ZG 227 Tryz.f227 81 [F189E] (hS (hS (.seq (hS (.lp (en [(7,.map XZ Y3),pd 21 Y3] [1,2,19,20]) [(.exit 0,en [(7,.map XZ Y3)] [1])] (hS (hS (.seq (hS (.seq (.seq (.reg [(30,Y4)]) .leaf) (hS (hS (.seq (.reg [(49,Y4)]) .leaf))))) .leaf))))) (hS (.seq (hS (.lpd 59 (en [(13,.own YQ false),(59,.it XZ Y3)] [1]) [(.exit 2,en [(13,.own YQ false)] [1])] .leaf)) .leaf))))) (.p WI (.p Y3 (.q Y4))) (.pd RE) (u3 F59)
def F9:(El YP)->Option (El Y3):=fun f=>
 Va
 (run
 (fun s0=>
 bif decide (s0<(↑(Vb f):Int)) then
 Va (idx f s0) fun h=>
 bif !decide (h=(0:Int)) then some (.inr (.inr h)) else some (.inl (Vc .i64 (s0+(1:Int))))
 else some (.inr (.inl ())))
 (0:Int))
 fun i=>Ve (fun _=>some (0:Int)) (fun j=>some j) i
def F9E:Zj:=ZG 231 Tryz.f231 18 [] (hS (hS (.seq (hS (.lp (en [pd 8 Y3] [3,6,7]) [(.exit 0,en [] [3]),(.ret,en [pd 2 Y3] [])] .leaf)) .leaf))) (.q YP) (.pd Y3) (u1 F9)
def F10:(El Y3)->Option (El Y4):=fun f=>some !decide (f=f)
def F10E:Zj:=ZG 236 Tryz.f236 6 [] .leaf (.q Y3) (.pd Y4) (u1 F10)
def F8:(El Y3)->(El Y3)->Option (El Y3):=fun f h=>
 Va (F10 f) fun j=>
 Va (F10 h) fun i=>
 bif j then bif i then some (0:Int) else some (-1:Int)
 else bif i then some (1:Int) else bif decide (f<h) then some (-1:Int) else bif decide (h<f) then some (1:Int) else some (0:Int)
def F8E:Zj:=ZG 232 Tryz.f232 20 [F10E] .leaf (.p Y3 (.q Y3)) (.pd Y3) (u2 F8)
def F58:(El Wh)->(El Wh)->Option (El Y3):=fun f h=>
 Va (F8 f.1 h.1) fun i=>
 Va (F8 f.2.1 h.2.1) fun j=>
 Va (F8 f.2.2.1 h.2.2.1) fun k=>Va (F9 [i,j,k]) fun l=>some l
def F58S:Tr.Spec:= {args:=(.cons (.pd Wh) (.cons (.pd Wh) .nil)),res:=(.cons (.pd Y3) .nil),fns:=[],α:=El Y3,f:=fun x=>F58 x.1 x.2.1,unp:=fun z=>(((),(),()),(z,()))}
theorem F58_ok:Z7 Tryz.prog 230 F58S:=Yy (rws:=[]) (zxs:=[]) (nt:=22) (m:=[(231,[F9E.S]),(232,[F8E.S])]) (fn:=Tryz.f230) (hint:=.leaf) (pack:=fun y=>y.2.1) X5 tab_ok ⟨⟨F9E.ok,trivial⟩,⟨F8E.ok,trivial⟩,trivial⟩ fun x z h=>.trans (by kernel_rfl) h
def F58E:Zj:=⟨230,F58S,F58_ok⟩
def F200(f:List (El Wh))(_:Unit):Option (List (El Wh)):=Tr.sortF F58 f
def F200S:Tr.Spec:= {args:=(.cons (.own Wh true) (.cons (.fn 230 .nil) .nil)),res:=.nil,fns:=[230],α:=List (El Wh),f:=fun x=>F200 x.1 x.2.1,unp:=fun z=>((z,(),()),())}
theorem F200_ok:Z7 Tryz.prog 229 F200S:=Tr.sortFunc_ok (ρ:=Tryz.sort229_ren) Tryz.sort229 rfl Tryz.isAgg77 Tryz.sizeOf77 F58_ok
def F200E:Zj:=⟨229,F200S,F200_ok⟩
def F57:(El Y3)->(El Y3)->(El Y3)->(El Y4)->(List (El Wh))->Option (List (El Wh)):=fun i j f k h=>
 Va (bif decide ((0:Int)<f) then some (decide (f<=(14400:Int))) else some false) fun l=>
 bif l then Va (ZF (decide (Vb h+Vb [(i,j,f,k,())]<=ZC))) fun _=>some (h++[(i,j,f,k,())]) else some h
def F57E:Zj:=Kd 228 Tryz.f228 23 [] (.seq (.reg [(14,Y4)]) .leaf) (.p Y3 (.p Y3 (.p Y3 (.p Y4 (.cons (.var WI (.own Wh false)) .nil))))) .nil (u5 F57) (fun z=>(((),(),(),(),z,()),())) (fun y=>y.1.2.2.2.2.1)
def F56:(El WI)->(El Y3)->Option (El WI):=fun n o=>
 Va (F59 n o false) fun p=>
 Va (F59 n o true) fun s=>
 Va
 (run
 (fun h=>
 bif decide (h.2<(↑(Vb p):Int)) then
 Va (idx p h.2) fun q=>
 Va
 (run
 (fun f=>
 bif decide (f.2<(↑(Vb q):Int)) then
 Va (idx q f.2) fun l=>
 bif decide (h.2=f.2) then some (.inl (f.1,Vc .i64 (f.2+(1:Int))))
 else
 Va (idx s h.2) fun t=>
 Va (idx t f.2) fun m=>
 Va (F57 h.2 f.2 l (decide (m=l)) f.1) fun r=>
 bif !decide (m=l) then
 Va (F57 h.2 f.2 m true r) fun u=>some (.inl (u,Vc .i64 (f.2+(1:Int))))
 else some (.inl (r,Vc .i64 (f.2+(1:Int))))
 else some (.inr f.1))
 (h.1,(0:Int)))
 fun i=>some (.inl (i,Vc .i64 (h.2+(1:Int))))
 else some (.inr h.1))
 ([],(0:Int)))
 fun j=>Va (F200 j ()) fun k=>some k
def F56E:Zj:=ZG 187 Tryz.f187 66 [F59E,F57E,F200E,F58E] (hS (hS (hS (hS (.seq (hS (.lp ⟨[(7,.var WI (.own Wh false)),pd 22 Y3],[(8,228,[7])],[5,6,21],[],[],[]⟩ [(.exit 0,en [(7,.var WI (.own Wh false))] [])] (hS (hS (.seq (hS (hS (.lp ⟨[(7,.var WI (.own Wh false)),pd 30 Y3],[(8,228,[7])],[5,6,9,21,22,28,29],[],[],[]⟩ [(.exit 2,⟨[(7,.var WI (.own Wh false))],[(8,228,[7])],[5,6,21,22],[],[],[]⟩)] .leaf))) .leaf))))) .leaf))))) (.p WI (.q Y3)) (.pd WI) (u2 F56)
def F55:(El WI)->(El Y3)->Option (El Y4):=fun f k=>
 bif decide ((64:Int)<k) then some false
 else
 Va (F60 f k) fun m=>
 bif !decide (m.2=(0:Int)) then some false
 else
 Va (F56 f (Tr.imax k (0:Int))) fun l=>
 bif !decide ((↑(Vb l):Int)=(↑(Vb f):Int)) then some false
 else
 Va
 (run
 (fun h=>
 bif decide (h<(↑(Vb l):Int)) then
 Va (idx l h) fun i=>
 Va (idx f h) fun j=>
 bif
 !(decide (i.1=j.1) &&
 (decide (i.2.1=j.2.1) && (decide (i.2.2.1=j.2.2.1) &&i.2.2.2.1==j.2.2.2.1))) then
 some (.inr (.inr false))
 else some (.inl (Vc .i64 (h+(1:Int))))
 else some (.inr (.inl ())))
 (0:Int))
 fun n=>Ve (fun _=>some true) (fun o=>some o) n
def F55E:Zj:=ZG 143 Tryz.f143 43 [F60E,F56E] (hS (hS (hS (hS (hS (.seq (hS (.lp (en [pd 30 Y3] [0,7,29]) [(.exit 0,e0),(.ret,en [pd 4 Y4] [])] .leaf)) .leaf)))))) (.p WI (.q Y3)) (.pd Y4) (u2 F55)
def F90:(El ZH)->Option (El KT):=fun h=>
 Va
 (run
 (fun s0=>
 bif decide (s0.2.2<(↑(Vb h.2.2.2.2.1):Int)) then
 Va (idx h.2.2.2.2.1 s0.2.2) fun f=>
 Va
 (Va (F102 f.1 (↑(Vb h.1):Int)) fun l=>
 bif !l then some true
 else Va (F102 f.2.1 (↑(Vb h.1):Int)) fun m=>bif !m then some true else some (decide (f.1=f.2.1)))
 fun n=>
 bif n then Va (F101 (4:Int) s0.2.2 (9:Int)) fun o=>some (.inr (.inr o))
 else
 Va (bif decide (f.2.2.1<(1:Int)) then some true else some (decide ((14400:Int)<f.2.2.1))) fun p=>
 bif p then Va (F101 (4:Int) s0.2.2 (2:Int)) fun q=>some (.inr (.inr q))
 else
 bif Vf (ZJ (Zl Wh) (f.1,f.2.1,(0:Int),f.2.2.2.1,()) s0.2.1) (false) then
 Va (F101 (4:Int) s0.2.2 (6:Int)) fun r=>some (.inr (.inr r))
 else
 some
 (.inl
 (s0.1,Z0 (Zl Wh) (f.1,f.2.1,(0:Int),f.2.2.2.1,()) true s0.2.1,Vc .i64 (s0.2.2+(1:Int))))
 else some (.inr (.inl s0.1)))
 (((0:Int),(0:Int),(0:Int),()),[],(0:Int)))
 fun s=>
 Ve
 (fun _=>
 Va (F55 h.2.2.2.2.1 (↑(Vb h.1):Int)) fun i=>
 bif !i then Va (F101 (4:Int) (0:Int) (18:Int)) fun j=>some j else some ((0:Int),(0:Int),(0:Int),()))
 (fun k=>some k) s
def F90E:Zj:=ZG 103 Tryz.f103 78 [F101E,F102E,F55E] (hS (hS (.seq (hS (.lp (en [(2,.var KT (.pd KT)),(3,.map Wh Y4),pd 11 Y3] [1,9,10]) [(.exit 0,en [(2,.var KT (.pd KT))] [1]),(.ret,en [(2,.var KT (.pd KT))] [])] (hS (hS (.seq (hS (hS (.seq (.seq (.reg [(23,Y4)]) (.cnd none .leaf (.seq (.reg [(49,Y4)]) .leaf))) .leaf))) .leaf))))) .leaf))) (.q ZH) (.pd KT) (u1 F90)
def F87:(El ZH)->Option (El Y3×El Y3×El Zr):=fun h=>
 Va (F203 h.1) fun l=>
 Va (F170 h.2.1) fun m=>
 Va (F101 (0:Int) l.1 l.2) fun r=>
 Va (F101 (1:Int) m.1 m.2) fun s=>
 Va (F92 [r,s]) fun n=>
 Va (bif decide (n.2.2.1=(0:Int)) then Va (F91 h) fun t=>some t else some n) fun o=>
 Va (bif decide (o.2.2.1=(0:Int)) then Va (F89 h) fun u=>some u else some o) fun p=>
 Va
 (bif decide (p.2.2.1=(0:Int)) then
 Va (F110 h.2.2.2.2.2.1) fun q=>
 Va (F90 h) fun i=>Va (F101 (5:Int) q.1 q.2) fun j=>Va (F92 [i,j]) fun k=>some k
 else some p)
 fun f=>some (f.1,f.2.1,f.2.2.1)
def F87E:Zj:=Kd 46 Tryz.f46 64 [F203E,F170E,F92E,F101E,F91E,F89E,F110E,F90E] (hS (hS (hS (hS (.seq (hS (.cnd (some ((en [] [1]),[(.normal,en [(9,.var KT (.pd KT))] [1])])) .leaf .leaf)) (.seq (hS (.cnd (some ((en [] [1]),[(.normal,en [(9,.var KT (.pd KT))] [1])])) .leaf .leaf)) (.seq (hS (.cnd (some (e0,[(.normal,en [(9,.var KT (.pd KT))] [])])) .leaf .leaf)) .leaf))))))) (.q ZH) (.p Y3 (.p Y3 (.q Zr))) (u1 F87) (fun z=>(((),()),(z.1,z.2.1,z.2.2,()))) (fun y=>(y.2.1,y.2.2.1,y.2.2.2.1))
def F50:(El Y3)->(El Y3)->(El Y3)->Option (El Y4):=fun f h i=>Va (bif decide (h<=f) then some (decide (f<=i)) else some false) fun j=>some j
def F50E:Zj:=ZG 47 Tryz.f47 15 [] (hS (.seq (.reg [(6,Y4)]) .leaf)) (.p Y3 (.p Y3 (.q Y3))) (.pd Y4) (u3 F50)
def F31:(El ZH)->(El ZR)->Option (El Zr):=fun h f=>
 Va (F87 h) fun i=>
 bif !decide (i.2.2=(0:Int)) then some (21:Int)
 else
 Va
 (Va (F50 f.1 (0:Int) (Vc .i64 ((↑(Vb h.1):Int) - (1:Int)))) fun j=>
 bif !j then some true
 else
 Va (F50 f.2.1 (0:Int) (Vc .i64 ((↑(Vb h.1):Int) - (1:Int)))) fun k=>
 bif !k then some true
 else
 Va (F50 f.2.2.1 (0:Int) (3155932800:Int)) fun l=>
 bif !l then some true
 else
 Va (F50 f.2.2.2.2.1 (0:Int) (8:Int)) fun m=>
 bif !m then some true
 else
 Va (F50 f.2.2.2.2.2.1 (0:Int) (86400:Int)) fun n=>
 bif !n then some true
 else
 Va (F50 f.2.2.2.2.2.2.2.2.1 (0:Int) (255:Int)) fun o=>
 bif !o then some true else bif f.2.2.2.2.2.2.2.2.2.1 then some f.2.2.2.1 else some false)
 fun p=>bif p then some (22:Int) else some (0:Int)
def F31E:Zj:=ZG 24 Tryz.f24 65 [F87E,F50E] (hS (hS (hS (hS (.seq (.seq (.reg [(64,Y4)]) .leaf) .leaf))))) (.p ZH (.q ZR)) (.pd Zr) (u2 F31)
def F99:(El Yp)->Option (El Yp):=fun f=>
 Va (ZF (decide (Vb ([]:List Unit)+Vb f<=ZC))) fun _=>
 Va (Zn (↑(Vb ([]++f)):Int) (Vb ([]++f)+(1:Nat))) fun h=>
 Va (sliceB (Vb ([]++f)) h none (some (↑(Vb ([]++f)):Int))) fun i=>some (Vj i.2 (Vl (0:Nat) ([]++f)))
def F99E:Zj:=ZG 48 Tryz.f48 13 [] .leaf (.q Yp) (.pd Yp) (u1 F99)
def F97:(El Yq)->Option (El Yq):=fun f=>
 Va (ZF (decide (Vb ([]:List Unit)+Vb f<=ZC))) fun _=>
 Va (Zn (↑(Vb ([]++f)):Int) (Vb ([]++f)+(1:Nat))) fun h=>
 Va (sliceB (Vb ([]++f)) h none (some (↑(Vb ([]++f)):Int))) fun i=>some (Vj i.2 (Vl (0:Nat) ([]++f)))
def F97E:Zj:=ZG 49 Tryz.f49 13 [] .leaf (.q Yq) (.pd Yq) (u1 F97)
def F98:(El Y24)->Option (List (El HC)):=fun f=>
 Va (ZF (decide (Vb ([]:List Unit)+Vb f<=ZC))) fun _=>
 Va (Zn (↑(Vb ([]++f)):Int) (Vb ([]++f)+(1:Nat))) fun h=>
 Va (sliceB (Vb ([]++f)) h none (some (↑(Vb ([]++f)):Int))) fun i=>some (Vj i.2 ([]++f))
def F98E:Zj:=ZG 50 Tryz.f50 13 [] .leaf (.q Y24) (.own HC false) (u1 F98)
def F95:(El Y25)->Option (List (El GK)):=fun f=>
 Va (ZF (decide (Vb ([]:List Unit)+Vb f<=ZC))) fun _=>
 Va (Zn (↑(Vb ([]++f)):Int) (Vb ([]++f)+(1:Nat))) fun h=>
 Va (sliceB (Vb ([]++f)) h none (some (↑(Vb ([]++f)):Int))) fun i=>some (Vj i.2 ([]++f))
def F95E:Zj:=ZG 51 Tryz.f51 13 [] .leaf (.q Y25) (.own GK false) (u1 F95)
def F94:(El WI)->Option (El WI):=fun f=>
 Va (ZF (decide (Vb ([]:List Unit)+Vb f<=ZC))) fun _=>
 Va (Zn (↑(Vb ([]++f)):Int) (Vb ([]++f)+(1:Nat))) fun h=>
 Va (sliceB (Vb ([]++f)) h none (some (↑(Vb ([]++f)):Int))) fun i=>some (Vj i.2 (Vl (0:Nat) ([]++f)))
def F94E:Zj:=ZG 52 Tryz.f52 13 [] .leaf (.q WI) (.pd WI) (u1 F94)
def F93:(El X0)->Option (El X0):=fun f=>
 Va (ZF (decide (Vb ([]:List Unit)+Vb f<=ZC))) fun _=>
 Va (Zn (↑(Vb ([]++f)):Int) (Vb ([]++f)+(1:Nat))) fun h=>
 Va (sliceB (Vb ([]++f)) h none (some (↑(Vb ([]++f)):Int))) fun i=>some (Vj i.2 (Vl (0:Nat) ([]++f)))
def F93E:Zj:=ZG 53 Tryz.f53 13 [] .leaf (.q X0) (.pd X0) (u1 F93)
def F96:(El G9)->Option (El G9):=fun f=>
 Va (ZF (decide (Vb ([]:List Unit)+Vb f<=ZC))) fun _=>
 Va (Zn (↑(Vb ([]++f)):Int) (Vb ([]++f)+(1:Nat))) fun h=>
 Va (sliceB (Vb ([]++f)) h none (some (↑(Vb ([]++f)):Int))) fun i=>some (Vj i.2 (Vl (0:Nat) ([]++f)))
def F96E:Zj:=ZG 54 Tryz.f54 13 [] .leaf (.q G9) (.pd G9) (u1 F96)
end
end Q

