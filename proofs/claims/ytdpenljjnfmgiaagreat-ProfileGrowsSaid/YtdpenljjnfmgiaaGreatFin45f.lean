/- The functions of the program as functions of Lean, and that the program computes them; printed by a program of mine. Conditions: none. -/
import Derived.KernelRfl
import Derived.Test.YtdpenljjnfmgiaaGreatProg
import Derived.Test.YtdpenljjnfmgiaaGreatETrY
import Derived.Test.YtdpenljjnfmgiaaGreatETsF
import Derived.Test.YtdpenljjnfmgiaaGreatLay45
import Derived.Test.YtdpenljjnfmgiaaGreatClo45
import Derived.Test.YtdpenljjnfmgiaaGreatSam45
import Derived.Test.YtdpenljjnfmgiaaGreatLen45
open Tr Go Go.Proofs
open Int renaming toNat ->Vc,fdiv ->Vd
open Go.IntKind renaming wrap ->Vb
open List renaming length ->Ve,isEmpty ->Vg,replicate ->Vh,take ->Vi,drop ->Vj,set ->Vk
open Option renaming bind ->Va
open Sum renaming elim ->Vl
open UInt8 renaming toNat ->Vf
namespace Q
noncomputable section
abbrev hS(h:KR):KR:=.seq .leaf h
abbrev Y3:Ty:=.int .i64
abbrev Y4:Ty:=.bool
abbrev Y9:Ty:=.str
abbrev Rg:Ty:=.prod Y9 (.prod Y3 (.prod Y4 (.prod Y3 .unit)))
abbrev J6:Ty:=.sl Rg
abbrev Rh:Ty:=.prod Y9 (.prod Y3 (.prod Y4 .unit))
abbrev J7:Ty:=.sl Rh
abbrev Gs:Ty:=.prod Y3 (.prod Y3 (.prod Y3 (.prod Y4 (.prod Y4 .unit))))
abbrev JT:Ty:=.sl Gs
abbrev Xp:Ty:=.prod Y3 (.prod Y3 (.prod Y3 (.prod Y9 (.prod Y3 (.prod Y4 (.prod Y4 (.prod JT .unit)))))))
abbrev DA:Ty:=.sl Xp
abbrev Yt:Ty:=.prod Y3 (.prod Y3 (.prod Y3 (.prod Y3 (.prod Y4 .unit))))
abbrev DB:Ty:=.sl Yt
abbrev KV:Ty:=.prod Y3 (.prod Y3 (.prod Y3 (.prod Y4 .unit)))
abbrev Wf:Ty:=.sl KV
abbrev XJ:Ty:=.prod Y9 (.prod Y3 (.prod Y3 (.prod Y3 (.prod Y3 (.prod Y3 .unit)))))
abbrev Hc:Ty:=.sl XJ
abbrev KK:Ty:=.prod Hc (.prod Y3 (.prod Y3 (.prod Y3 .unit)))
abbrev Zh:Ty:=.prod J6 (.prod J7 (.prod DA (.prod DB (.prod Wf (.prod KK .unit)))))
abbrev Zm:Ty:=.prod Y3 (.prod Y3 (.prod Y3 (.prod Y4 (.prod Y3 (.prod Y3 (.prod Y4 (.prod Y4 (.prod Y3 (.prod Y4 .unit)))))))))
abbrev ZP:Ty:=.int .i64
abbrev Jp:Ty:=.prod Y4 (.prod Y3 (.prod Y3 (.prod Y3 (.prod Y3 (.prod Y3 (.prod Y3 (.prod Y3 (.prod Y4 .unit))))))))
abbrev JS:Ty:=.sl Jp
abbrev W5:Ty:=.sl Y3
abbrev Jw:Ty:=.pt KK
abbrev WP:Ty:=.prod Y3 (.prod Y3 (.prod Y3 (.prod Y3 .unit)))
abbrev GY:Ty:=.arr 9 Y3
abbrev K5:Ty:=.lk Jw (.prod WP (.prod Y3 (.prod GY .unit)))
abbrev Y94:Ty:=.prod Y3 (.prod Y3 (.prod Y3 (.prod Y3 (.prod Y3 (.prod Y4 (.prod K5 (.prod JS .unit)))))))
abbrev Y91:Ty:=.pt Y94
abbrev K4:Ty:=.sl Y91
abbrev WO:Ty:=.sl WP
abbrev Zx:Ty:=.sl W5
abbrev Zaf:Ty:=.sl K4
abbrev Ri:Ty:=.prod Zh (.prod Zm (.prod Zx (.prod Zaf (.prod K4 (.prod K4 .unit)))))
abbrev Hy:Ty:=.int .u64
abbrev ZcY:Ty:=.prod Jw (.prod K5 (.prod WP (.prod Y3 (.prod GY .unit))))
abbrev We:Ty:=.prod Y91 (.prod Y3 (.prod Y3 (.prod Y4 (.prod WP (.prod W5 .unit)))))
abbrev KE:Ty:=.int .u64
abbrev Zh8:Ty:=.ref
abbrev Hd:Ty:=.prod Y3 (.prod Y3 (.prod Y3 (.prod Y3 (.prod Hy .unit))))
abbrev Zbw:Ty:=.sl Hd
def tyTab:List (Nat×Ty):=[(3,Y3),(4,Y4),(9,Y9),(128,Rg),(22,J6),(130,Rh),(23,J7),(145,Gs),(76,JT),(78,Xp),(24,DA),(199,Yt),(25,DB),(141,KV),(26,Wf),(133,XJ),(27,Hc),(29,KK),(31,Zh),(33,Zm),(35,ZP),(82,Jp),(46,JS),(87,W5),(206,Jw),(173,WP),(207,GY),(92,K5),(94,Y94),(91,Y91),(89,K4),(111,WO),(153,Zx),(154,Zaf),(156,Ri),(184,Hy),(209,ZcY),(212,We),(215,KE),(249,Zh8),(322,Hd),(319,Zbw)]
def mapTab:List (Nat×Ty×Ty):=[(249,Y9,Y4)]
def pkTab:List (Nat×Nat):=[(91,1),(92,1)]
def bdTab:List (Nat×Nat):=[]
theorem KZ:Tryz.prog.follows .mixedOrders=true:=by kernel_rfl
theorem tab_ok:Hq Tryz.prog tyTab mapTab pkTab bdTab=true:=by kernel_rfl
abbrev pd(n:Nat)(t:Ty):Nat×Pat:=(n,.pd t)
abbrev en(a:List (Nat×Pat))(c:List Nat):WA:=⟨a,[],c,[],[],[]⟩
abbrev e0:WA:=⟨[],[],[],[],[],[]⟩
variable {a b c d e g z:Type}
abbrev u1(f:a->z)(x:a×Unit):z:=f x.1
abbrev u2(f:a->b->z)(x:a×b×Unit):z:=f x.1 x.2.1
abbrev u3(f:a->b->c->z)(x:a×b×c×Unit):z:=f x.1 x.2.1 x.2.2.1
abbrev u4(f:a->b->c->d->z)(x:a×b×c×d×Unit):z:=f x.1 x.2.1 x.2.2.1 x.2.2.2.1
abbrev u5(f:a->b->c->d->e->z)(x:a×b×c×d×e×Unit):z:=f x.1 x.2.1 x.2.2.1 x.2.2.2.1 x.2.2.2.2.1
abbrev u6(f:a->b->c->d->e->g->z)(x:a×b×c×d×e×g×Unit):z:=f x.1 x.2.1 x.2.2.1 x.2.2.2.1 x.2.2.2.2.1 x.2.2.2.2.2.1
structure Zp where
 i:Nat
 S:Tr.Spec
 ok:ZL Tryz.prog i S
def GE:List Zp->List (Nat×List Tr.Spec)
 |[]=>[]
 |e::l=>(e.i,e.S::(l.filter fun d=>Nat.beq d.i e.i).map Zp.S)::GE l
theorem ZgY:∀l,D9 Tryz.prog (GE l)
 |[]=>trivial
 |e::l=>⟨⟨e.ok,f e.i _ fun d j=>Nat.eq_of_beq_eq_true (List.mem_filter.1 j).2⟩,ZgY l⟩
where f (i:Nat):∀l:List Zp,(∀d∈l,d.i=i)->Ra Tryz.prog i (l.map Zp.S)
 |[],_=>trivial
 |e::l,h=>⟨h e (by simp) ▸e.ok,f i l fun d j=>h d (by simp [j])⟩
abbrev _root_.Tr.Pats.p(t:Ty)(l:Pats):Pats:=.cons (.pd t) l
abbrev _root_.Tr.Pats.q(t:Ty):Pats:=.cons (.pd t) .nil
def ZbW(i:Nat)(fn:Func)(nt:Nat)(l:List Zp)(hint:KR)(args res:Pats){α:Type}(f:Kn args->Option α)(unp:α->KY args×Kn res)(pack:KY args×Kn res->α)(rws zxs:List Nat:=[])(fns:List FuncId:=[])(pl:Bool:=true)(kp:List (Nat×Nat×Nat):=[])
    (n:∀x z,f x=some z->XO (mkE tyTab mapTab pkTab rws zxs (GE l) nt bdTab) (KM fn) fn.results hint args res pack x kp=some z:=by intro x z h;exact .trans (by kernel_rfl) h)
    (t:Tryz.prog.funcs[i]? =some fn:=by kernel_rfl) (s:fn.body=some (KM fn):=by kernel_rfl) (o:nt=fn.ntmps:=by kernel_rfl) (j:(fn.name== "runtime.NumGoroutine")=false:=by kernel_rfl)
    (r:args.wf=true:=by kernel_rfl) (m:Nat.ble args.len nt=true:=by kernel_rfl) (k:∀y,unp (pack y)=y:=by intro y;rfl) (q:(!pl|| (GE l).all fun p=>p.2.all (·.pl))=true:=by kernel_rfl):Zp:=
 ⟨i, {args,res,fns,α,f,unp,pl,kp},WS KZ tab_ok (ZgY l) n t s o j r m k q⟩
def X6(i:Nat)(fn:Func)(nt:Nat)(l:List Zp)(hint:KR)(args:Pats)(r:Pat)(f:Kn args->Option (KP r))(rws zxs:List Nat:=[])(fns:List FuncId:=[])(pl:Bool:=true)(u:KY args:=by repeat' constructor)
    (n:∀x z,f x=some z->XO (mkE tyTab mapTab pkTab rws zxs (GE l) nt bdTab) (KM fn) fn.results hint args (Pats.cons r .nil) (fun y:KY args×Kn (Pats.cons r .nil)=>(y.2.1:KP r)) x []=some z:=by intro x z h;exact .trans (by kernel_rfl) h)
    (v:Tryz.prog.funcs[i]? =some fn:=by kernel_rfl) (t:fn.body=some (KM fn):=by kernel_rfl) (o:nt=fn.ntmps:=by kernel_rfl) (j:(fn.name== "runtime.NumGoroutine")=false:=by kernel_rfl)
    (s:args.wf=true:=by kernel_rfl) (m:Nat.ble args.len nt=true:=by kernel_rfl) (k:∀y:KY args,u=y:=by intro y;rfl) (q:(!pl|| (GE l).all fun p=>p.2.all (·.pl))=true:=by kernel_rfl):Zp:=
 ZbW i fn nt l hint args (.cons r .nil) f (fun z=>(u,(z,()))) (fun y=>y.2.1) rws zxs fns pl [] n v t o j s m (fun y=>by rw[k y.1]) q
abbrev Pz1:Pat:=.agg (.cons (.pd J6) (.cons (.pd J7) (.cons (.own Xp false) (.cons (.own Yt false) (.cons (.pd Wf) (.cons (.pd KK) .nil))))))
abbrev Pz0:Pat:=.var Zh Pz1
abbrev Tz0:=El Zh×El Zm×El Zx×List (List (El Y91)) ×List (El Y91) ×List (El Y91) ×Unit
def F29(f:El Jw)(h:El Jw):Option Bool:=Qs.sameF f h
abbrev F29A:Pats:=(.cons (.pd Jw) (.cons (.pd Jw) .nil))
abbrev F29R:Pats:=(.cons (.pd Y4) .nil)
def F29S:Tr.Spec:= {args:=F29A,res:=F29R,fns:=[],α:=El Y4,f:=fun x=>F29 x.1 x.2.1,unp:=fun z=>(((),(),()),(z,()))}
theorem F29_ok:ZL Tryz.prog 247 F29S:=Qs.sam_ok
def F29E:Zp:=⟨247,F29S,F29_ok⟩
def F27:(El K5)->(El K5)->Option (El Y4):=fun f h=>
 Va (Tr.unc f) fun _=>
 Va (Tr.unc f) fun v=>
 Va (Tr.unc f) fun _=>
 Va (Tr.unc f) fun w=>
 Va (idx w.2.2.2.2.1 v.2.2.2.1) fun t=>
 Va (Tr.unc h) fun _=>
 Va (Tr.unc h) fun x=>
 Va (Tr.unc h) fun _=>
 Va (Tr.unc h) fun y=>
 Va (idx y.2.2.2.2.1 x.2.2.2.1) fun u=>
 bif decide (u<(0:Int)) then some true
 else
 Va (bif decide (t<(0:Int)) then some true else some (decide (u<t))) fun k=>
 bif k then some false
 else
 Va
 (Va (Tr.unc f) fun _=>
 Va (Tr.unc f) fun i=>
 Va i.1 fun _=>
 Va i.1 fun l=>
 bif decide (l.2.1=(0:Int)) then some true
 else
 Va (Tr.unc h) fun _=>
 Va (Tr.unc h) fun m=>
 bif decide (m.2.2.2.1=(0:Int)) then some true
 else
 Va (Tr.unc f) fun _=>
 Va (Tr.unc f) fun j=>
 Va j.1 fun _=>Va j.1 fun n=>some (decide (Vb .i64 (t+n.2.1)<=u)))
 fun o=>
 bif o then some true
 else
 Va
 (Va (Tr.unc f) fun _=>
 Va (Tr.unc f) fun p=>
 bif decide ((0:Int)<p.2.2.2.1) then
 Va (Tr.unc f) fun _=>
 Va (Tr.unc f) fun q=>
 Va (Tr.unc h) fun _=>Va (Tr.unc h) fun r=>some (decide (r.2.2.1.2.1<=q.2.2.1.2.1))
 else some false)
 fun s=>some s
def F27E:Zp:=X6 248 Tryz.f248 83 [] (hS (hS (.seq (hS (.cnd none .leaf (.seq (.reg [(28,Y4)]) (.cnd none .leaf (.seq (.reg [(36,Y4)]) .leaf))))) (.seq (.reg [(4,Y4)]) .leaf)))) (.p K5 (.q K5)) (.pd Y4) (u2 F27)
def F23:(El K5)->Option (List (El WP)):=fun h=>
 Va (Tr.unc h) fun _=>
 Va (Tr.unc h) fun i=>
 Va
 (Zy
 (decide
 ((0:El (Tr.Ty.int .i64))<=i.2.2.2.1/\i.2.2.2.1<=i.2.2.2.1/\i.2.2.2.1<=(↑ZC:El (Tr.Ty.int .i64)))))
 fun _=>
 Va (Tr.unc h) fun _=>
 Va (Tr.unc h) fun m=>
 Va
 (run
 (fun f=>
 bif decide ((0:Int)<=f.2.2) then
 Va (Tr.unc f.1) fun _=>
 Va (Tr.unc f.1) fun n=>
 Va (ZA f.2.2 (Ve f.2.1)) fun l=>
 Va f.2.1[l]? fun _=>
 Va (Tr.unc f.1) fun _=>
 Va (Tr.unc f.1) fun j=>some (.inl (j.2.1,Vk f.2.1 l n.2.2.1,Vb .i64 (f.2.2 - (1:Int))))
 else some (.inr f.2.1))
 (h,Vh (Vc i.2.2.2.1) (((0:Int),(0:Int),(0:Int),(0:Int),())),Vb .i64 (m.2.2.2.1 - (1:Int))))
 fun k=>some k
def F23E:Zp:=X6 245 Tryz.f245 31 [] (hS (hS (.seq (hS (.lp (en [pd 0 K5,(3,.own WP false),pd 4 Y3] []) [(.exit 0,en [(3,.own WP false)] [])] .leaf)) .leaf))) (.q K5) (.own WP false) (u1 F23)
def F24:(El K5)->Option (El WO):=fun h=>
 Va (Tr.unc h) fun _=>
 Va (Tr.unc h) fun i=>
 Va
 (Zy
 (decide
 ((0:El (Tr.Ty.int .i64))<=i.2.2.2.1/\i.2.2.2.1<=i.2.2.2.1/\i.2.2.2.1<=(↑ZC:El (Tr.Ty.int .i64)))))
 fun _=>
 Va (Tr.unc h) fun _=>
 Va (Tr.unc h) fun m=>
 Va
 (run
 (fun f=>
 bif decide ((0:Int)<=f.2.2) then
 Va (Tr.unc f.1) fun _=>
 Va (Tr.unc f.1) fun n=>
 Va (ZA f.2.2 (Ve f.2.1)) fun l=>
 Va f.2.1[l]? fun _=>
 Va (Tr.unc f.1) fun _=>
 Va (Tr.unc f.1) fun j=>some (.inl (j.2.1,Vk f.2.1 l n.2.2.1,Vb .i64 (f.2.2 - (1:Int))))
 else some (.inr f.2.1))
 (h,Vh (Vc i.2.2.2.1) (((0:Int),(0:Int),(0:Int),(0:Int),())),Vb .i64 (m.2.2.2.1 - (1:Int))))
 fun k=>some k
def F24E:Zp:=X6 245 Tryz.f245 31 [] (hS (hS (.seq (hS (.lp (en [pd 0 K5,(3,.own WP false),pd 4 Y3] []) [(.exit 0,en [(3,.own WP false)] [])] .leaf)) .leaf))) (.q K5) (.pd WO) (u1 F24)
def F30:(El Y3)->(El Y3)->(El Y3)->Option (El Y4):=fun f h i=>
 Va
 (bif decide (h<=f) then some true
 else some (decide (Vb .u64 (Vb .u64 h - Vb .u64 f)<=Vb .u64 i)))
 fun j=>some j
def F30E:Zp:=X6 253 Tryz.f253 20 [] (hS (.seq (.reg [(6,Y4)]) .leaf)) (.p Y3 (.p Y3 (.q Y3))) (.pd Y4) (u3 F30)
def F25:(El K5)->(El XJ)->(El WO)->(El Y3)->Option (El Y3):=fun f j k h=>
 Va
 (bif decide ((0:Int)<h) then
 Va (idx k (Vb .i64 (h - (1:Int)))) fun n=>
 Va (idx k h) fun o=>
 Va (Tr.unc f) fun _=>
 Va (Tr.unc f) fun l=>Va l.1 fun _=>Va l.1 fun p=>Va (F30 n.2.1 o.1 p.2.2.1) fun q=>some q
 else some false)
 fun r=>
 bif r then
 Va (Tr.unc f) fun _=>
 Va (Tr.unc f) fun m=>Va m.1 fun _=>Va m.1 fun i=>some (Tr.imax (0:Int) (Vb .i64 (j.2.1 - i.2.1)))
 else some j.2.1
def F25E:Zp:=X6 246 Tryz.f246 45 [F30E] (hS (.seq (.seq (.reg [(31,Y4)]) .leaf) .leaf)) (.p K5 (.p XJ (.p WO (.q Y3)))) (.pd Y3) (u4 F25)
def F65:(El Hy)->Option (El Y3):=fun f=>
 some
 (ZE .i64
 (Vb .i64
 (Vb .u64
 (Vb .u64
 (Vb .u64
 (ZE .u64
 (Vb .u64
 (Vd
 (Vb .u64
 (ZE .u64
 (Vd
 (Vb .u64
 (ZE .u64 (Vd f ((2:Int) ^ Min.min (Vc (1:Int)) (Go.IntKind.bits .u64))) (6148914691236517205:Int)+
 ZE .u64 f (6148914691236517205:Int)))
 ((2:Int) ^ Min.min (Vc (2:Int)) (Go.IntKind.bits .u64)))
 (3689348814741910323:Int)+
 ZE .u64
 (Vb .u64
 (ZE .u64 (Vd f ((2:Int) ^ Min.min (Vc (1:Int)) (Go.IntKind.bits .u64))) (6148914691236517205:Int)+
 ZE .u64 f (6148914691236517205:Int)))
 (3689348814741910323:Int)))
 ((2:Int) ^ Min.min (Vc (4:Int)) (Go.IntKind.bits .u64))+
 Vb .u64
 (ZE .u64
 (Vd
 (Vb .u64
 (ZE .u64 (Vd f ((2:Int) ^ Min.min (Vc (1:Int)) (Go.IntKind.bits .u64))) (6148914691236517205:Int)+
 ZE .u64 f (6148914691236517205:Int)))
 ((2:Int) ^ Min.min (Vc (2:Int)) (Go.IntKind.bits .u64)))
 (3689348814741910323:Int)+
 ZE .u64
 (Vb .u64
 (ZE .u64 (Vd f ((2:Int) ^ Min.min (Vc (1:Int)) (Go.IntKind.bits .u64))) (6148914691236517205:Int)+
 ZE .u64 f (6148914691236517205:Int)))
 (3689348814741910323:Int))))
 (1085102592571150095:Int)+
 Vd
 (ZE .u64
 (Vb .u64
 (Vd
 (Vb .u64
 (ZE .u64
 (Vd
 (Vb .u64
 (ZE .u64 (Vd f ((2:Int) ^ Min.min (Vc (1:Int)) (Go.IntKind.bits .u64))) (6148914691236517205:Int)+
 ZE .u64 f (6148914691236517205:Int)))
 ((2:Int) ^ Min.min (Vc (2:Int)) (Go.IntKind.bits .u64)))
 (3689348814741910323:Int)+
 ZE .u64
 (Vb .u64
 (ZE .u64 (Vd f ((2:Int) ^ Min.min (Vc (1:Int)) (Go.IntKind.bits .u64))) (6148914691236517205:Int)+
 ZE .u64 f (6148914691236517205:Int)))
 (3689348814741910323:Int)))
 ((2:Int) ^ Min.min (Vc (4:Int)) (Go.IntKind.bits .u64))+
 Vb .u64
 (ZE .u64
 (Vd
 (Vb .u64
 (ZE .u64 (Vd f ((2:Int) ^ Min.min (Vc (1:Int)) (Go.IntKind.bits .u64))) (6148914691236517205:Int)+
 ZE .u64 f (6148914691236517205:Int)))
 ((2:Int) ^ Min.min (Vc (2:Int)) (Go.IntKind.bits .u64)))
 (3689348814741910323:Int)+
 ZE .u64
 (Vb .u64
 (ZE .u64 (Vd f ((2:Int) ^ Min.min (Vc (1:Int)) (Go.IntKind.bits .u64))) (6148914691236517205:Int)+
 ZE .u64 f (6148914691236517205:Int)))
 (3689348814741910323:Int))))
 (1085102592571150095:Int))
 ((2:Int) ^ Min.min (Vc (8:Int)) (Go.IntKind.bits .u64)))+
 Vd
 (Vb .u64
 (ZE .u64
 (Vb .u64
 (Vd
 (Vb .u64
 (ZE .u64
 (Vd
 (Vb .u64
 (ZE .u64 (Vd f ((2:Int) ^ Min.min (Vc (1:Int)) (Go.IntKind.bits .u64))) (6148914691236517205:Int)+
 ZE .u64 f (6148914691236517205:Int)))
 ((2:Int) ^ Min.min (Vc (2:Int)) (Go.IntKind.bits .u64)))
 (3689348814741910323:Int)+
 ZE .u64
 (Vb .u64
 (ZE .u64 (Vd f ((2:Int) ^ Min.min (Vc (1:Int)) (Go.IntKind.bits .u64))) (6148914691236517205:Int)+
 ZE .u64 f (6148914691236517205:Int)))
 (3689348814741910323:Int)))
 ((2:Int) ^ Min.min (Vc (4:Int)) (Go.IntKind.bits .u64))+
 Vb .u64
 (ZE .u64
 (Vd
 (Vb .u64
 (ZE .u64 (Vd f ((2:Int) ^ Min.min (Vc (1:Int)) (Go.IntKind.bits .u64))) (6148914691236517205:Int)+
 ZE .u64 f (6148914691236517205:Int)))
 ((2:Int) ^ Min.min (Vc (2:Int)) (Go.IntKind.bits .u64)))
 (3689348814741910323:Int)+
 ZE .u64
 (Vb .u64
 (ZE .u64 (Vd f ((2:Int) ^ Min.min (Vc (1:Int)) (Go.IntKind.bits .u64))) (6148914691236517205:Int)+
 ZE .u64 f (6148914691236517205:Int)))
 (3689348814741910323:Int))))
 (1085102592571150095:Int)+
 Vd
 (ZE .u64
 (Vb .u64
 (Vd
 (Vb .u64
 (ZE .u64
 (Vd
 (Vb .u64
 (ZE .u64 (Vd f ((2:Int) ^ Min.min (Vc (1:Int)) (Go.IntKind.bits .u64))) (6148914691236517205:Int)+
 ZE .u64 f (6148914691236517205:Int)))
 ((2:Int) ^ Min.min (Vc (2:Int)) (Go.IntKind.bits .u64)))
 (3689348814741910323:Int)+
 ZE .u64
 (Vb .u64
 (ZE .u64 (Vd f ((2:Int) ^ Min.min (Vc (1:Int)) (Go.IntKind.bits .u64))) (6148914691236517205:Int)+
 ZE .u64 f (6148914691236517205:Int)))
 (3689348814741910323:Int)))
 ((2:Int) ^ Min.min (Vc (4:Int)) (Go.IntKind.bits .u64))+
 Vb .u64
 (ZE .u64
 (Vd
 (Vb .u64
 (ZE .u64 (Vd f ((2:Int) ^ Min.min (Vc (1:Int)) (Go.IntKind.bits .u64))) (6148914691236517205:Int)+
 ZE .u64 f (6148914691236517205:Int)))
 ((2:Int) ^ Min.min (Vc (2:Int)) (Go.IntKind.bits .u64)))
 (3689348814741910323:Int)+
 ZE .u64
 (Vb .u64
 (ZE .u64 (Vd f ((2:Int) ^ Min.min (Vc (1:Int)) (Go.IntKind.bits .u64))) (6148914691236517205:Int)+
 ZE .u64 f (6148914691236517205:Int)))
 (3689348814741910323:Int))))
 (1085102592571150095:Int))
 ((2:Int) ^ Min.min (Vc (8:Int)) (Go.IntKind.bits .u64))))
 ((2:Int) ^ Min.min (Vc (16:Int)) (Go.IntKind.bits .u64)))+
 Vd
 (Vb .u64
 (Vb .u64
 (ZE .u64
 (Vb .u64
 (Vd
 (Vb .u64
 (ZE .u64
 (Vd
 (Vb .u64
 (ZE .u64 (Vd f ((2:Int) ^ Min.min (Vc (1:Int)) (Go.IntKind.bits .u64))) (6148914691236517205:Int)+
 ZE .u64 f (6148914691236517205:Int)))
 ((2:Int) ^ Min.min (Vc (2:Int)) (Go.IntKind.bits .u64)))
 (3689348814741910323:Int)+
 ZE .u64
 (Vb .u64
 (ZE .u64 (Vd f ((2:Int) ^ Min.min (Vc (1:Int)) (Go.IntKind.bits .u64))) (6148914691236517205:Int)+
 ZE .u64 f (6148914691236517205:Int)))
 (3689348814741910323:Int)))
 ((2:Int) ^ Min.min (Vc (4:Int)) (Go.IntKind.bits .u64))+
 Vb .u64
 (ZE .u64
 (Vd
 (Vb .u64
 (ZE .u64 (Vd f ((2:Int) ^ Min.min (Vc (1:Int)) (Go.IntKind.bits .u64))) (6148914691236517205:Int)+
 ZE .u64 f (6148914691236517205:Int)))
 ((2:Int) ^ Min.min (Vc (2:Int)) (Go.IntKind.bits .u64)))
 (3689348814741910323:Int)+
 ZE .u64
 (Vb .u64
 (ZE .u64 (Vd f ((2:Int) ^ Min.min (Vc (1:Int)) (Go.IntKind.bits .u64))) (6148914691236517205:Int)+
 ZE .u64 f (6148914691236517205:Int)))
 (3689348814741910323:Int))))
 (1085102592571150095:Int)+
 Vd
 (ZE .u64
 (Vb .u64
 (Vd
 (Vb .u64
 (ZE .u64
 (Vd
 (Vb .u64
 (ZE .u64 (Vd f ((2:Int) ^ Min.min (Vc (1:Int)) (Go.IntKind.bits .u64))) (6148914691236517205:Int)+
 ZE .u64 f (6148914691236517205:Int)))
 ((2:Int) ^ Min.min (Vc (2:Int)) (Go.IntKind.bits .u64)))
 (3689348814741910323:Int)+
 ZE .u64
 (Vb .u64
 (ZE .u64 (Vd f ((2:Int) ^ Min.min (Vc (1:Int)) (Go.IntKind.bits .u64))) (6148914691236517205:Int)+
 ZE .u64 f (6148914691236517205:Int)))
 (3689348814741910323:Int)))
 ((2:Int) ^ Min.min (Vc (4:Int)) (Go.IntKind.bits .u64))+
 Vb .u64
 (ZE .u64
 (Vd
 (Vb .u64
 (ZE .u64 (Vd f ((2:Int) ^ Min.min (Vc (1:Int)) (Go.IntKind.bits .u64))) (6148914691236517205:Int)+
 ZE .u64 f (6148914691236517205:Int)))
 ((2:Int) ^ Min.min (Vc (2:Int)) (Go.IntKind.bits .u64)))
 (3689348814741910323:Int)+
 ZE .u64
 (Vb .u64
 (ZE .u64 (Vd f ((2:Int) ^ Min.min (Vc (1:Int)) (Go.IntKind.bits .u64))) (6148914691236517205:Int)+
 ZE .u64 f (6148914691236517205:Int)))
 (3689348814741910323:Int))))
 (1085102592571150095:Int))
 ((2:Int) ^ Min.min (Vc (8:Int)) (Go.IntKind.bits .u64)))+
 Vd
 (Vb .u64
 (ZE .u64
 (Vb .u64
 (Vd
 (Vb .u64
 (ZE .u64
 (Vd
 (Vb .u64
 (ZE .u64 (Vd f ((2:Int) ^ Min.min (Vc (1:Int)) (Go.IntKind.bits .u64))) (6148914691236517205:Int)+
 ZE .u64 f (6148914691236517205:Int)))
 ((2:Int) ^ Min.min (Vc (2:Int)) (Go.IntKind.bits .u64)))
 (3689348814741910323:Int)+
 ZE .u64
 (Vb .u64
 (ZE .u64 (Vd f ((2:Int) ^ Min.min (Vc (1:Int)) (Go.IntKind.bits .u64))) (6148914691236517205:Int)+
 ZE .u64 f (6148914691236517205:Int)))
 (3689348814741910323:Int)))
 ((2:Int) ^ Min.min (Vc (4:Int)) (Go.IntKind.bits .u64))+
 Vb .u64
 (ZE .u64
 (Vd
 (Vb .u64
 (ZE .u64 (Vd f ((2:Int) ^ Min.min (Vc (1:Int)) (Go.IntKind.bits .u64))) (6148914691236517205:Int)+
 ZE .u64 f (6148914691236517205:Int)))
 ((2:Int) ^ Min.min (Vc (2:Int)) (Go.IntKind.bits .u64)))
 (3689348814741910323:Int)+
 ZE .u64
 (Vb .u64
 (ZE .u64 (Vd f ((2:Int) ^ Min.min (Vc (1:Int)) (Go.IntKind.bits .u64))) (6148914691236517205:Int)+
 ZE .u64 f (6148914691236517205:Int)))
 (3689348814741910323:Int))))
 (1085102592571150095:Int)+
 Vd
 (ZE .u64
 (Vb .u64
 (Vd
 (Vb .u64
 (ZE .u64
 (Vd
 (Vb .u64
 (ZE .u64 (Vd f ((2:Int) ^ Min.min (Vc (1:Int)) (Go.IntKind.bits .u64))) (6148914691236517205:Int)+
 ZE .u64 f (6148914691236517205:Int)))
 ((2:Int) ^ Min.min (Vc (2:Int)) (Go.IntKind.bits .u64)))
 (3689348814741910323:Int)+
 ZE .u64
 (Vb .u64
 (ZE .u64 (Vd f ((2:Int) ^ Min.min (Vc (1:Int)) (Go.IntKind.bits .u64))) (6148914691236517205:Int)+
 ZE .u64 f (6148914691236517205:Int)))
 (3689348814741910323:Int)))
 ((2:Int) ^ Min.min (Vc (4:Int)) (Go.IntKind.bits .u64))+
 Vb .u64
 (ZE .u64
 (Vd
 (Vb .u64
 (ZE .u64 (Vd f ((2:Int) ^ Min.min (Vc (1:Int)) (Go.IntKind.bits .u64))) (6148914691236517205:Int)+
 ZE .u64 f (6148914691236517205:Int)))
 ((2:Int) ^ Min.min (Vc (2:Int)) (Go.IntKind.bits .u64)))
 (3689348814741910323:Int)+
 ZE .u64
 (Vb .u64
 (ZE .u64 (Vd f ((2:Int) ^ Min.min (Vc (1:Int)) (Go.IntKind.bits .u64))) (6148914691236517205:Int)+
 ZE .u64 f (6148914691236517205:Int)))
 (3689348814741910323:Int))))
 (1085102592571150095:Int))
 ((2:Int) ^ Min.min (Vc (8:Int)) (Go.IntKind.bits .u64))))
 ((2:Int) ^ Min.min (Vc (16:Int)) (Go.IntKind.bits .u64))))
 ((2:Int) ^ Min.min (Vc (32:Int)) (Go.IntKind.bits .u64)))))
 (127:Int))
def F65E:Zp:=X6 254 Tryz.f254 35 [] .leaf (.q Hy) (.pd Y3) (u1 F65)
def F26:(El K5)->Option (El Zbw):=fun k=>
 Va (F24 k) fun i=>
 Va
 (run
 (fun h=>
 bif decide (h.2<(↑(Ve i):Int)) then
 Va (Tr.unc k) fun _=>
 Va (Tr.unc k) fun A=>
 Va (idx A.2.2.2.2.1 h.2) fun B=>
 bif decide (B<(0:Int)) then some (.inl (h.1,Vb .i64 (h.2+(1:Int))))
 else
 Va (sliceB (Ve i) (Ve i) (some h.2) none) fun m=>
 Va
 (run
 (fun l=>
 bif decide (l.2.2<(↑(Ve (Vi (m.2 - m.1) (Vj m.1 i))):Int)) then
 Va (idx (Vi (m.2 - m.1) (Vj m.1 i)) l.2.2) fun y=>
 some
 (.inl
 (Wy .u64 l.1 (Vb .u64 y.2.2.1),Wy .u64 l.2.1 (Vb .u64 y.2.2.2.1),
 Vb .i64 (l.2.2+(1:Int))))
 else some (.inr (l.1,l.2.1)))
 ((0:Int),(0:Int),(0:Int)))
 fun s=>
 Va (Tr.unc k) fun _=>
 Va (Tr.unc k) fun n=>
 Va n.1 fun _=>
 Va n.1 fun o=>
 Va
 (run
 (fun f=>
 bif decide (f.2<(↑(Ve o.1):Int)) then
 Va (idx o.1 f.2) fun j=>
 Va
 (bif decide (Vb .i64 ((↑(Ve i):Int) - h.2)<j.2.2.1) then
 Va (F65 s.1) fun t=>
 bif decide (t<=j.2.2.2.1) then
 some (decide (Tr.qandNot .u64 s.2 (Vb .u64 j.2.2.2.2.2.1)=(0:Int)))
 else some false
 else some false)
 fun u=>
 bif u then
 Va (idx i h.2) fun p=>
 Va (Tr.unc k) fun _=>
 Va (Tr.unc k) fun v=>
 Va (idx v.2.2.2.2.1 h.2) fun q=>
 Va (F25 k j i h.2) fun r=>
 Va
 (Zy
 (decide
 (Ve f.1+
 Ve
 [(f.2,p.1,Vb .i64 ((↑(Ve i):Int) - h.2),Vb .i64 (q+r),
 s.1,())]<=
 ZC)))
 fun _=>
 some
 (.inl
 (f.1++
 [(f.2,p.1,Vb .i64 ((↑(Ve i):Int) - h.2),Vb .i64 (q+r),
 s.1,())],
 Vb .i64 (f.2+(1:Int))))
 else some (.inl (f.1,Vb .i64 (f.2+(1:Int))))
 else some (.inr f.1))
 (h.1,(0:Int)))
 fun w=>some (.inl (w,Vb .i64 (h.2+(1:Int))))
 else some (.inr h.1))
 ([],(0:Int)))
 fun x=>some x
def F26E:Zp:=X6 249 Tryz.f249 110 [F24E,F25E,F65E] (hS (hS (hS (.seq (hS (.lp (en [(3,.own Hd false),pd 16 Y3] [0,4,15]) [(.exit 0,en [(3,.own Hd false)] [])] (hS (hS (.seq (hS (hS (hS (.seq (hS (.lp (en [pd 6 Hy,pd 7 Hy,pd 30 Y3] [0,3,4,5,15,16,28,29]) [(.exit 2,en [pd 6 Hy,pd 7 Hy] [0,3,4,5,15,16])] .leaf)) (hS (.lp (en [(3,.own Hd false),pd 53 Y3] [0,4,5,6,7,15,16,51,52]) [(.exit 4,en [(3,.own Hd false)] [0,4,15,16])] (hS (hS (.seq (hS (.seq (.reg [(79,Y4)]) .leaf)) .leaf))))))))) .leaf))))) .leaf)))) (.q K5) (.pd Zbw) (u1 F26)
def F28:(El Hd)->(El Hd)->Option (El Y4):=fun f h=>
 Va
 (bif decide (f.1=h.1) then
 bif decide (h.2.1<=f.2.1) then
 bif decide (f.2.2.1<=h.2.2.1) then
 bif decide (f.2.2.2.1<=h.2.2.2.1) then some (decide (Tr.qandNot .u64 f.2.2.2.2.1 h.2.2.2.2.1=(0:Int)))
 else some false
 else some false
 else some false
 else some false)
 fun i=>some i
def F28E:Zp:=X6 250 Tryz.f250 39 [] (hS (.seq (.reg [(4,Y4)]) .leaf)) (.p Hd (.q Hd)) (.pd Y4) (u2 F28)
def F20:(El K5)->(El K5)->Option (El Y4):=fun h i=>
 Va
 (bif Vg h then some true
 else
 bif Vg i then some true
 else
 Va (Tr.unc h) fun _=>
 Va (Tr.unc h) fun t=>
 Va (Tr.unc i) fun _=>
 Va (Tr.unc i) fun u=>
 Va (F29 t.1 u.1) fun v=>bif !v then some true else Va (F27 h i) fun w=>some !w)
 fun x=>
 bif x then some false
 else
 Va (F26 h) fun r=>
 Va (F26 i) fun s=>
 Va
 (run
 (fun j=>
 bif decide (j<(↑(Ve s):Int)) then
 Va (idx s j) fun k=>
 Va
 (run
 (fun f=>
 bif decide (f.2<(↑(Ve r):Int)) then
 Va (idx r f.2) fun l=>
 Va (bif f.1 then some true else Va (F28 l k) fun m=>some m) fun n=>
 some (.inl (n,Vb .i64 (f.2+(1:Int))))
 else some (.inr f.1))
 (false,(0:Int)))
 fun o=>bif !o then some (.inr (.inr false)) else some (.inl (Vb .i64 (j+(1:Int))))
 else some (.inr (.inl ())))
 (0:Int))
 fun p=>Vl (fun _=>some true) (fun q=>some q) p
def F20E:Zp:=X6 228 Tryz.f228 60 [F29E,F27E,F26E,F28E] (hS (.seq (.seq (.reg [(34,Y4)]) .leaf) (hS (.seq (hS (.lp (en [pd 40 Y3] [5,38,39]) [(.exit 0,e0),(.ret,en [pd 4 Y4] [])] (hS (hS (.seq (hS (hS (.seq (hS (.lp (en [pd 8 Y4,pd 46 Y3] [5,7,38,39,40,44,45]) [(.exit 2,en [pd 8 Y4] [5,38,39,40])] (hS (hS (.seq (hS (.reg [(8,Y4)])) .leaf))))) .leaf))) .leaf))))) .leaf)))) (.p K5 (.q K5)) (.pd Y4) (u2 F20)
def F86:(El Y3)->(El Y3)->(El Y3)->Option (El Y4):=fun h i f=>
 bif decide (h<=i) then
 Va
 (bif decide (f<(0:Int)) then some true
 else some (decide (Vb .u64 f<Vb .u64 (Vb .u64 i - Vb .u64 h))))
 fun j=>some j
 else
 Va
 (bif decide (f<(0:Int)) then
 some
 (decide
 (Vb .u64 (Vb .u64 h - Vb .u64 i)<Vb .u64 ((0:Int) - Vb .u64 f)))
 else some false)
 fun k=>some k
def F86E:Zp:=X6 230 Tryz.f230 35 [] (hS (.seq (hS (.cnd none (.seq (.reg [(6,Y4)]) .leaf) .leaf)) (.seq (.reg [(6,Y4)]) .leaf))) (.p Y3 (.p Y3 (.q Y3))) (.pd Y4) (u3 F86)
def F1(f:Int):Option Int:=Tr.lenF f
def F1S:Tr.Spec:= {args:=(.cons (.pd KE) .nil),res:=(.cons (.pd Y3) .nil),fns:=[],α:=El Y3,f:=fun x=>F1 x.1,unp:=fun z=>(((),()),(z,()))}
theorem F1_ok:ZL Tryz.prog 233 F1S:=Tr.len_ok
def F1E:Zp:=⟨233,F1S,F1_ok⟩
def F4:(El KE)->(El KE)->Option (El Y4):=fun f h=>some (decide (Tr.qandNot .u64 f h=(0:Int)))
def F4E:Zp:=X6 234 Tryz.f234 9 [] .leaf (.p KE (.q KE)) (.pd Y4) (u2 F4)
def F2:(El KE)->(El KE)->Option (El KE):=fun f h=>some (Wy .u64 f h)
def F2E:Zp:=X6 232 Tryz.f232 8 [] .leaf (.p KE (.q KE)) (.pd KE) (u2 F2)
def F85:(El WP)->(El KE)->(El KE)->Option (El KE×El KE):=fun f h i=>
 Va (F2 h (Vb .u64 f.2.2.1)) fun j=>
 Va (F2 i (Vb .u64 f.2.2.2.1)) fun k=>some (j,k)
def F85E:Zp:=ZbW 231 Tryz.f231 14 [F2E] .leaf (.p WP (.cons (.var KE (.pd KE)) (.cons (.var KE (.pd KE)) .nil))) .nil (u3 F85) (fun z=>(((),z.1,z.2,()),())) (fun y=>(y.1.2.1,y.1.2.2.1))
def F84:(El XJ)->(El WO)->Option (El Y4):=fun i f=>
 Va
 (bif decide ((↑(Ve f):Int)=(0:Int)) then some true
 else
 bif decide (i.2.2.1<(↑(Ve f):Int)) then some true
 else
 Va (idx f (0:Int)) fun m=>
 Va (idx f (Vb .i64 ((↑(Ve f):Int) - (1:Int)))) fun n=>
 Va (F86 m.1 n.1 i.2.2.2.2.1) fun o=>some o)
 fun p=>
 bif p then some false
 else
 Va
 (run
 (fun h=>
 bif decide (h.2.2<(↑(Ve f):Int)) then
 Va (idx f h.2.2) fun q=>
 Va (F85 q h.1 h.2.1) fun k=>some (.inl (k.1,k.2,Vb .i64 (h.2.2+(1:Int))))
 else some (.inr (h.1,h.2.1)))
 ((0:Int),(0:Int),(0:Int)))
 fun l=>
 Va
 (Va (F1 l.1) fun r=>
 bif decide (r<=i.2.2.2.1) then Va (F4 l.2 (Vb .u64 i.2.2.2.2.2.1)) fun s=>some s
 else some false)
 fun j=>some j
def F84E:Zp:=X6 200 Tryz.f200 59 [F86E,F85E,F1E,F4E] (hS (hS (.seq (.seq (.reg [(35,Y4)]) .leaf) (hS (hS (.seq (hS (.lp ⟨[(6,.var KE (.pd KE)),(7,.var KE (.pd KE)),pd 39 Y3],[(8,231,[6,7])],[2,37,38],[],[],[]⟩ [(.exit 0,en [(6,.var KE (.pd KE)),(7,.var KE (.pd KE))] [2])] .leaf)) (.seq (.reg [(4,Y4)]) .leaf))))))) (.p XJ (.q WO)) (.pd Y4) (u2 F84)
def F22:(El K5)->(El WP)->Option (El K5×El ZP):=fun h t=>
 bif Vg h then some ([],(40:Int))
 else
 Va (Tr.unc h) fun _=>
 Va (Tr.unc h) fun E=>
 bif decide ((8:Int)<=E.2.2.2.1) then some ([],(33:Int))
 else
 Va (Tr.unc h) fun _=>
 Va (Tr.unc h) fun D=>
 Va (Tr.unc h) fun _=>
 Va (Tr.unc h) fun s=>
 Va (Tr.unc h) fun _=>
 Va (Tr.unc h) fun k=>
 Va (F23 ((D.1,t,Vb .i64 (s.2.2.2.1+(1:Int)),k.2.2.2.2.1,())::h)) fun r=>
 Va
 (run
 (fun i=>
 bif decide (i.2<(↑(Ve r):Int)) then
 Va (Tr.unc h) fun _=>
 Va (Tr.unc h) fun l=>
 Va l.1 fun _=>
 Va l.1 fun m=>
 Va
 (run
 (fun f=>
 bif decide (f.2<(↑(Ve m.1):Int)) then
 Va (idx m.1 f.2) fun n=>
 Va
 (Va (ZA i.2 (9:Nat)) fun u=>
 Va k.2.2.2.2.1[u]? fun v=>
 bif decide (v<(0:Int)) then some true
 else
 Va (sliceB (Ve r) (Ve r) (some i.2) none) fun j=>
 Va (F84 n (Vi (j.2 - j.1) (Vj j.1 r))) fun w=>some !w)
 fun x=>
 bif x then some (.inl (f.1,Vb .i64 (f.2+(1:Int))))
 else
 Va (ZA i.2 (9:Nat)) fun y=>
 Va k.2.2.2.2.1[y]? fun o=>
 Va
 (F25 ((D.1,t,Vb .i64 (s.2.2.2.1+(1:Int)),k.2.2.2.2.1,())::h)
 n r i.2)
 fun p=>
 Va
 (bif decide (f.1<(0:Int)) then some true
 else some (decide (Vb .i64 (o+p)<f.1)))
 fun A=>
 bif A then some (.inl (Vb .i64 (o+p),Vb .i64 (f.2+(1:Int))))
 else some (.inl (f.1,Vb .i64 (f.2+(1:Int))))
 else some (.inr f.1))
 (i.1,(0:Int)))
 fun B=>some (.inl (B,Vb .i64 (i.2+(1:Int))))
 else some (.inr i.1))
 ((-1:Int),(0:Int)))
 fun C=>
 Va (ZA (Vb .i64 (s.2.2.2.1+(1:Int))) (9:Nat)) fun q=>
 Va k.2.2.2.2.1[q]? fun _=>
 some ((D.1,t,Vb .i64 (s.2.2.2.1+(1:Int)),Vk k.2.2.2.2.1 q C,())::h,(0:Int))
def F22E:Zp:=ZbW 226 Tryz.f226 103 [F84E,F23E,F25E] (hS (hS (hS (hS (hS (hS (.seq (hS (.lp (en [pd 8 Y3,pd 41 Y3] [0,6,7,40]) [(.exit 0,en [pd 8 Y3] [6])] (hS (hS (.seq (hS (hS (.lp (en [pd 8 Y3,pd 52 Y3] [0,6,7,9,40,41,50,51]) [(.exit 2,en [pd 8 Y3] [0,6,7,40,41])] (hS (hS (.seq (hS (.seq (.seq (.reg [(70,Y4)]) .leaf) (hS (.seq (.reg [(89,Y4)]) .leaf)))) .leaf)))))) .leaf))))) .leaf))))))) (.p K5 (.q WP)) (.p K5 (.q ZP)) (u2 F22) (fun z=>(((),(),()),(z.1,z.2,()))) (fun y=>(y.2.1,y.2.2.1)) (rws:=[209])
def F21:(El K5)->Option (El Y3×El Y4):=fun f=>
 Va
 (bif Vg f then some true
 else
 Va (Tr.unc f) fun _=>
 Va (Tr.unc f) fun p=>
 Va (Tr.unc f) fun _=>Va (Tr.unc f) fun q=>Va (idx q.2.2.2.2.1 p.2.2.2.1) fun r=>some (decide (r<(0:Int))))
 fun s=>
 bif s then some ((0:Int),false)
 else
 Va (Tr.unc f) fun _=>
 Va (Tr.unc f) fun t=>
 Va (Tr.unc f) fun _=>
 Va (Tr.unc f) fun u=>
 Va (idx u.2.2.2.2.1 t.2.2.2.1) fun h=>
 Va
 (Va (Tr.unc f) fun _=>
 Va (Tr.unc f) fun i=>
 Va i.1 fun _=>
 Va i.1 fun l=>
 bif decide (l.2.2.2.1=(0:Int)) then some true
 else
 Va (Tr.unc f) fun _=>
 Va (Tr.unc f) fun j=>Va j.1 fun _=>Va j.1 fun m=>some (decide (h<m.2.2.2.1)))
 fun n=>
 bif n then some (h,true)
 else Va (Tr.unc f) fun _=>Va (Tr.unc f) fun k=>Va k.1 fun _=>Va k.1 fun o=>some (o.2.2.2.1,true)
def F21E:Zp:=ZbW 227 Tryz.f227 55 [] (hS (.seq (.seq (.reg [(18,Y4)]) .leaf) (.seq (hS (.seq (.reg [(46,Y4)]) .leaf)) .leaf))) (.q K5) (.p Y3 (.q Y4)) (u1 F21) (fun z=>(((),()),(z.1,z.2,()))) (fun y=>(y.2.1,y.2.2.1))
def F51:(El Y9)->Option (El Y4):=fun h=>
 Va
 (run
 (fun s0=>
 bif decide (s0<(↑(Ve h):Int)) then
 Va (idx h s0) fun f=>
 Va (bif decide ((97:Int)<=(↑(Vf f):Int)) then some (decide ((↑(Vf f):Int)<=(122:Int))) else some false)
 fun k=>
 Va
 (bif k then some k
 else
 Va (bif decide ((65:Int)<=(↑(Vf f):Int)) then some (decide ((↑(Vf f):Int)<=(90:Int))) else some false)
 fun l=>
 Va
 (bif l then some l
 else
 Va
 (bif decide ((48:Int)<=(↑(Vf f):Int)) then some (decide ((↑(Vf f):Int)<=(57:Int))) else some false)
 fun m=>some m)
 fun n=>some n)
 fun o=>
 bif o then some (.inl (Vb .i64 (s0+(1:Int))))
 else
 Va
 (bif decide ((↑(Vf f):Int)=(45:Int)) then some (decide ((↑(Vf f):Int)=(45:Int)))
 else
 Va
 (bif decide ((↑(Vf f):Int)=(95:Int)) then some (decide ((↑(Vf f):Int)=(95:Int)))
 else some (decide ((↑(Vf f):Int)=(46:Int))))
 fun p=>some p)
 fun q=>bif q then some (.inl (Vb .i64 (s0+(1:Int)))) else some (.inr (.inr false))
 else some (.inr (.inl ())))
 (0:Int))
 fun r=>
 Vl
 (fun _=>
 Va (bif decide ((0:Int)<(↑(Ve h):Int)) then some (decide ((↑(Ve h):Int)<=(32:Int))) else some false) fun i=>
 some i)
 (fun j=>some j) r
def F51E:Zp:=X6 175 Tryz.f175 48 [] (hS (.seq (hS (.lp (en [pd 3 Y3] [0]) [(.exit 0,en [] [0]),(.ret,en [pd 2 Y4] [])] (hS (.seq (hS (.seq (.seq (.reg [(14,Y4)]) (.cnd (some ((en [] [0,3,4]),[(.normal,en [pd 14 Y4] [0,3,4])])) .leaf (.seq (.reg [(14,Y4)]) (.cnd (some ((en [] [0,3,4]),[(.normal,en [pd 14 Y4] [0,3,4])])) .leaf (.reg [(14,Y4)]))))) (.cnd none .leaf (.seq (hS (.cnd (some ((en [] [0,3]),[(.normal,en [pd 33 Y4] [0,3])])) .leaf (hS (.cnd (some ((en [] [0,3]),[(.normal,en [pd 33 Y4] [0,3])])) .leaf .leaf)))) .leaf)))) .leaf)))) (.seq (.reg [(2,Y4)]) .leaf))) (.q Y9) (.pd Y4) (u1 F51)
def F87:(El Y3)->(El Y3)->(El Y3)->Option (El Y4):=fun f h i=>Va (bif decide (h<=f) then some (decide (f<=i)) else some false) fun j=>some j
def F87E:Zp:=X6 180 Tryz.f180 15 [] (hS (.seq (.reg [(6,Y4)]) .leaf)) (.p Y3 (.p Y3 (.q Y3))) (.pd Y4) (u3 F87)
def F83:(El KK)->Option (El Y3×El ZP):=fun i=>
 Va
 (Va (F87 i.2.1 (0:Int) (1000000:Int)) fun o=>
 bif !o then some true
 else
 Va (F87 i.2.2.1 (0:Int) (86400:Int)) fun p=>
 bif !p then some true else Va (F87 i.2.2.2.1 (0:Int) (1000000:Int)) fun q=>some !q)
 fun r=>
 bif r then some ((-1:Int),(2:Int))
 else
 bif decide ((16:Int)<(↑(Ve i.1):Int)) then some ((0:Int),(5:Int))
 else
 Va
 (run
 (fun f=>
 bif decide (f.2<(↑(Ve i.1):Int)) then
 Va (idx i.1 f.2) fun h=>
 Va (F51 h.1) fun s=>
 bif !s then some (.inr (.inr (f.2,(12:Int))))
 else
 bif Option.getD (ZK (Zj Y9) h.1 f.1) (false) then some (.inr (.inr (f.2,(6:Int))))
 else
 Va
 (Va (F87 h.2.1 (0:Int) (1000000:Int)) fun t=>
 bif !t then some true
 else
 Va (F87 h.2.2.1 (1:Int) (8:Int)) fun u=>
 bif !u then some true
 else
 Va (F87 h.2.2.2.1 (1:Int) (16:Int)) fun v=>
 bif !v then some true
 else
 Va (F87 h.2.2.2.2.1 (0:Int) (86400:Int)) fun k=>
 bif !k then some true else Va (F87 h.2.2.2.2.2.1 (1:Int) (255:Int)) fun l=>some !l)
 fun m=>
 bif m then some (.inr (.inr (f.2,(2:Int))))
 else some (.inl (Kh (Zj Y9) h.1 true f.1,Vb .i64 (f.2+(1:Int))))
 else some (.inr (.inl ())))
 ([],(0:Int)))
 fun n=>Vl (fun _=>some ((0:Int),(0:Int))) (fun j=>some (j.1,j.2)) n
def F83E:Zp:=ZbW 113 Tryz.f113 79 [F51E,F87E] (hS (.seq (.seq (.reg [(22,Y4)]) .leaf) (hS (hS (.seq (hS (.lp (en [(4,.map Y9 Y4),pd 31 Y3] [29,30]) [(.exit 0,e0),(.ret,en [pd 2 Y3,pd 3 ZP] [])] (hS (hS (.seq (hS (hS (hS (.seq (.seq (.reg [(73,Y4)]) .leaf) .leaf)))) .leaf))))) .leaf))))) (.q KK) (.p Y3 (.q ZP)) (u1 F83) (fun z=>(((),()),(z.1,z.2,()))) (fun y=>(y.2.1,y.2.2.1))
def F19:(El KK)->Option (El K5×El ZP):=fun f=>
 Va (F83 f) fun h=>
 bif !decide (h.2=(0:Int)) then some ([],(20:Int))
 else
 Va (Zy (decide (Ve ([]:List Unit)+Ve f.1<=ZC))) fun _=>
 some ((some ([]++f.1,f.2),((0:Int),(0:Int),(0:Int),(0:Int),()),(0:Int),Tr.zeroEl GY,())::Tr.zeroEl K5,(0:Int))
def F19S:Tr.Spec:= {args:=(.cons (.pd KK) .nil),res:=(.cons (.pd K5) (.cons (.pd ZP) .nil)),fns:=[],α:=El K5×El ZP,f:=fun x=>F19 x.1,unp:=fun z=>(((),()),(z.1,z.2,()))}
theorem F19_ok:ZL Tryz.prog 78 F19S:=WS (rws:=[209]) (zxs:=[27]) (nt:=21) (m:=[(113,[F83E.S])]) (fn:=Tryz.f78) (hint:=.leaf) (pack:=fun y=>(y.2.1,y.2.2.1)) KZ tab_ok ⟨⟨F83E.ok,trivial⟩,trivial⟩ fun x z h=>.trans (by kernel_rfl) h
end
end Q

