/- The functions of the program as functions of Lean, and that the program computes them; printed by a program of mine. Conditions: none. -/
import Derived.KernelRfl
import Derived.Test.YtdpenljjnfmgiaaGreatProg
import Derived.Test.YtdpenljjnfmgiaaGreatETsB
import Derived.Test.YtdpenljjnfmgiaaGreatETsF
import Derived.Test.YtdpenljjnfmgiaaGreatLay45
import Derived.Test.YtdpenljjnfmgiaaGreatClo45
import Derived.Test.YtdpenljjnfmgiaaGreatSam45
import Derived.Test.YtdpenljjnfmgiaaGreatLen45
open Tr Go Go.Proofs Tryz
open Int renaming toNat ->R,fdiv ->Vd
open Go.IntKind renaming wrap ->Vb
open List renaming length ->Ve,isEmpty ->Vg,replicate ->Vh,take ->Vi,drop ->Vj,set ->Vk
open Option renaming bind ->Va
open Sum renaming elim ->Vl
open UInt8 renaming toNat ->Vf
open Option renaming some ->J,none ->Ub
open Bool renaming true ->Uc,false ->Ud
open Decidable renaming decide ->U
namespace Q
noncomputable section
abbrev hS(h:K7):K7:=.seq .leaf h
abbrev Y3:Ty:=.int .i64
abbrev Y4:Ty:=.bool
abbrev Y9:Ty:=.str
abbrev Zag:Ty:=.prod Y9 (.prod Y3 (.prod Y4 (.prod Y3 .unit)))
abbrev Xv:Ty:=.sl Zag
abbrev Zah:Ty:=.prod Y9 (.prod Y3 (.prod Y4 .unit))
abbrev Xw:Ty:=.sl Zah
abbrev Dr:Ty:=.prod Y3 (.prod Y3 (.prod Y3 (.prod Y4 (.prod Y4 .unit))))
abbrev Xj:Ty:=.sl Dr
abbrev XQ:Ty:=.prod Y3 (.prod Y3 (.prod Y3 (.prod Y9 (.prod Y3 (.prod Y4 (.prod Y4 (.prod Xj .unit)))))))
abbrev RB:Ty:=.sl XQ
abbrev YO:Ty:=.prod Y3 (.prod Y3 (.prod Y3 (.prod Y3 (.prod Y4 .unit))))
abbrev RC:Ty:=.sl YO
abbrev Wd:Ty:=.prod Y3 (.prod Y3 (.prod Y3 (.prod Y4 .unit)))
abbrev WB:Ty:=.sl Wd
abbrev J2:Ty:=.prod Y9 (.prod Y3 (.prod Y3 (.prod Y3 (.prod Y3 (.prod Y3 .unit)))))
abbrev HJ:Ty:=.sl J2
abbrev KJ:Ty:=.prod HJ (.prod Y3 (.prod Y3 (.prod Y3 .unit)))
abbrev Zh:Ty:=.prod Xv (.prod Xw (.prod RB (.prod RC (.prod WB (.prod KJ .unit)))))
abbrev Zk:Ty:=.prod Y3 (.prod Y3 (.prod Y3 (.prod Y4 (.prod Y3 (.prod Y3 (.prod Y4 (.prod Y4 (.prod Y3 (.prod Y4 .unit)))))))))
abbrev ZK:Ty:=.int .i64
abbrev K3:Ty:=.prod Y4 (.prod Y3 (.prod Y3 (.prod Y3 (.prod Y3 (.prod Y3 (.prod Y3 (.prod Y3 (.prod Y4 .unit))))))))
abbrev Xi:Ty:=.sl K3
abbrev Jp:Ty:=.sl Y3
abbrev JK:Ty:=.pt KJ
abbrev W0:Ty:=.prod Y3 (.prod Y3 (.prod Y3 (.prod Y3 .unit)))
abbrev D0:Ty:=.arr 9 Y3
abbrev Wr:Ty:=.lk JK (.prod W0 (.prod Y3 (.prod D0 .unit)))
abbrev Y94:Ty:=.prod Y3 (.prod Y3 (.prod Y3 (.prod Y3 (.prod Y3 (.prod Y4 (.prod Wr (.prod Xi .unit)))))))
abbrev Y91:Ty:=.pt Y94
abbrev Wq:Ty:=.sl Y91
abbrev Wp:Ty:=.sl W0
abbrev ZB:Ty:=.sl Jp
abbrev Zbb:Ty:=.sl Wq
abbrev Zai:Ty:=.prod Zh (.prod Zk (.prod ZB (.prod Zbb (.prod Wq (.prod Wq .unit)))))
abbrev Gm:Ty:=.int .u64
abbrev Zd3:Ty:=.prod JK (.prod Wr (.prod W0 (.prod Y3 (.prod D0 .unit))))
abbrev WA:Ty:=.prod Y91 (.prod Y3 (.prod Y3 (.prod Y4 (.prod W0 (.prod Jp .unit)))))
abbrev KV:Ty:=.int .u64
abbrev ZjG:Ty:=.ref
abbrev HK:Ty:=.prod Y3 (.prod Y3 (.prod Y3 (.prod Y3 (.prod Gm .unit))))
abbrev Zcx:Ty:=.sl HK
def tyTab:List (Nat×Ty):=[(3,Y3),(4,Y4),(9,Y9),(128,Zag),(22,Xv),(130,Zah),(23,Xw),(145,Dr),(76,Xj),(78,XQ),(24,RB),(199,YO),(25,RC),(141,Wd),(26,WB),(133,J2),(27,HJ),(29,KJ),(31,Zh),(33,Zk),(35,ZK),(82,K3),(46,Xi),(87,Jp),(206,JK),(173,W0),(207,D0),(92,Wr),(94,Y94),(91,Y91),(89,Wq),(111,Wp),(153,ZB),(154,Zbb),(156,Zai),(184,Gm),(209,Zd3),(212,WA),(215,KV),(249,ZjG),(322,HK),(319,Zcx)]
def mapTab:List (Nat×Ty×Ty):=[(249,Y9,Y4)]
def pkTab:List (Nat×Nat):=[(91,1),(92,1)]
def bdTab:List (Nat×Nat):=[]
theorem We:Tryz.prog.follows .mixedOrders=true:=by kernel_rfl
theorem tab_ok:H6 Tryz.prog tyTab mapTab pkTab bdTab=true:=by kernel_rfl
abbrev pd(n:Nat)(t:Ty):Nat×Pat:=(n,.pd t)
abbrev en(a:List (Nat×Pat))(c:List Nat):WZ:=⟨a,[],c,[],[],[]⟩
abbrev e0:WZ:=⟨[],[],[],[],[],[]⟩
variable {a b c d e g z:Type}
abbrev u1(f:a->z)(x:a×Unit):z:=f x.1
abbrev u2(f:a->b->z)(x:a×b×Unit):z:=f x.1 x.2.1
abbrev u3(f:a->b->c->z)(x:a×b×c×Unit):z:=f x.1 x.2.1 x.2.2.1
abbrev u4(f:a->b->c->d->z)(x:a×b×c×d×Unit):z:=f x.1 x.2.1 x.2.2.1 x.2.2.2.1
abbrev u5(f:a->b->c->d->e->z)(x:a×b×c×d×e×Unit):z:=f x.1 x.2.1 x.2.2.1 x.2.2.2.1 x.2.2.2.2.1
abbrev u6(f:a->b->c->d->e->g->z)(x:a×b×c×d×e×g×Unit):z:=f x.1 x.2.1 x.2.2.1 x.2.2.2.1 x.2.2.2.2.1 x.2.2.2.2.2.1
structure Zm where
 i:Nat
 S:Tr.Spec
 ok:ZT Tryz.prog i S
def DL:List Zm->List (Nat×List Tr.Spec)
 |[]=>[]
 |e::l=>(e.i,e.S::(l.filter λd=>Nat.beq d.i e.i).map Zm.S)::DL l
theorem Zir:∀l,Zab Tryz.prog (DL l)
 |[]=>trivial
 |e::l=>⟨⟨e.ok,f e.i _ λd j=>Nat.eq_of_beq_eq_true (List.mem_filter.1 j).2⟩,Zir l⟩
where f (i:Nat):∀l:List Zm,(∀d∈l,d.i=i)->Zac Tryz.prog i (l.map Zm.S)
 |[],_=>trivial
 |e::l,h=>⟨h e (by simp) ▸e.ok,f i l λd j=>h d (by simp [j])⟩
abbrev _root_.Tr.Pats.p(t:Ty)(l:Pats):Pats:=.cons (.pd t) l
abbrev _root_.Tr.Pats.q(t:Ty):Pats:=.cons (.pd t) .nil
def Zc1(i:Nat)(fn:Func)(nt:Nat)(l:List Zm)(hint:K7)(args res:Pats){α:Type}(f:Kw args->Option α)(unp:α->Wi args×Kw res)(pack:Wi args×Kw res->α)(rws zxs:List Nat:=[])(fns:List FuncId:=[])(pl:Bool:=true)(kp:List (Nat×Nat×Nat):=[])
    (n:∀x z,f x=J z->XV (mkE tyTab mapTab pkTab rws zxs (DL l) nt bdTab) (K2 fn) fn.results hint args res pack x kp=J z:=by intro x z h;exact .trans (by kernel_rfl) h)
    (t:Tryz.prog.funcs[i]? =some fn:=by kernel_rfl) (s:fn.body=some (K2 fn):=by kernel_rfl) (o:nt=fn.ntmps:=by kernel_rfl) (j:(fn.name== "runtime.NumGoroutine")=false:=by kernel_rfl)
    (r:args.wf=true:=by kernel_rfl) (m:Nat.ble args.len nt=true:=by kernel_rfl) (k:∀y,unp (pack y)=y:=by intro y;rfl) (q:(!pl|| (DL l).all λp=>p.2.all (·.pl))=true:=by kernel_rfl):Zm:=
 ⟨i, {args,res,fns,α,f,unp,pl,kp},Ja We tab_ok (Zir l) n t s o j r m k q⟩
def Yu(i:Nat)(fn:Func)(nt:Nat)(l:List Zm)(hint:K7)(args:Pats)(r:Pat)(f:Kw args->Option (K6 r))(rws zxs:List Nat:=[])(fns:List FuncId:=[])(pl:Bool:=true)(u:Wi args:=by repeat' constructor)
    (n:∀x z,f x=J z->XV (mkE tyTab mapTab pkTab rws zxs (DL l) nt bdTab) (K2 fn) fn.results hint args (Pats.cons r .nil) (λy:Wi args×Kw (Pats.cons r .nil)=>(y.2.1:K6 r)) x []=J z:=by intro x z h;exact .trans (by kernel_rfl) h)
    (v:Tryz.prog.funcs[i]? =some fn:=by kernel_rfl) (t:fn.body=some (K2 fn):=by kernel_rfl) (o:nt=fn.ntmps:=by kernel_rfl) (j:(fn.name== "runtime.NumGoroutine")=false:=by kernel_rfl)
    (s:args.wf=true:=by kernel_rfl) (m:Nat.ble args.len nt=true:=by kernel_rfl) (k:∀y:Wi args,u=y:=by intro y;rfl) (q:(!pl|| (DL l).all λp=>p.2.all (·.pl))=true:=by kernel_rfl):Zm:=
 Zc1 i fn nt l hint args (.cons r .nil) f (λz=>(u,(z,()))) (λy=>y.2.1) rws zxs fns pl [] n v t o j s m (λy=>by rw[k y.1]) q
abbrev Pz1:Pat:=.agg (.cons (.pd Xv) (.cons (.pd Xw) (.cons (.own XQ Ud) (.cons (.own YO Ud) (.cons (.pd WB) (.cons (.pd KJ) .nil))))))
abbrev Pz0:Pat:=.var Zh Pz1
abbrev Tz0:=El Zh×El Zk×El ZB×List (List (El Y91))×List (El Y91)×List (El Y91)×Unit
def F29(f:El JK)(h:El JK):Option Bool:=Qs.sameF f h
abbrev F29A:Pats:=(.cons (.pd JK) (.cons (.pd JK) .nil))
abbrev F29R:Pats:=(.cons (.pd Y4) .nil)
def F29S:Tr.Spec:={args:=F29A,res:=F29R,fns:=[],α:=El Y4,f:=λx=>F29 x.1 x.2.1,unp:=λz=>(((),(),()),(z,()))}
theorem F29_ok:ZT Tryz.prog 247 F29S:=Qs.sam_ok
def F29E:Zm:=⟨247,F29S,F29_ok⟩
def F27:(El Wr)->(El Wr)->Option (El Y4):=λf h=>Va (Tr.unc f) λ_=>Va (Tr.unc f) λv=>Va (Tr.unc f) λ_=>Va (Tr.unc f) λw=>Va (idx w.2.2.2.2.1 v.2.2.2.1) λt=>Va (Tr.unc h) λ_=>Va (Tr.unc h) λx=>Va (Tr.unc h) λ_=>Va (Tr.unc h) λy=>Va (idx y.2.2.2.2.1 x.2.2.2.1) λu=>bif U (u<(0:Int)) then J Uc else Va (bif U (t<(0:Int)) then J Uc else J (U (u<t))) λk=>bif k then J Ud else Va (Va (Tr.unc f) λ_=>Va (Tr.unc f) λi=>Va i.1 λ_=>Va i.1 λl=>bif U (l.2.1=(0:Int)) then J Uc else Va (Tr.unc h) λ_=>Va (Tr.unc h) λm=>bif U (m.2.2.2.1=(0:Int)) then J Uc else Va (Tr.unc f) λ_=>Va (Tr.unc f) λj=>Va j.1 λ_=>Va j.1 λn=>J (U (Vb .i64 (t+n.2.1)<=u))) λo=>bif o then J Uc else Va (Va (Tr.unc f) λ_=>Va (Tr.unc f) λp=>bif U ((0:Int)<p.2.2.2.1) then Va (Tr.unc f) λ_=>Va (Tr.unc f) λq=>Va (Tr.unc h) λ_=>Va (Tr.unc h) λr=>J (U (r.2.2.1.2.1<=q.2.2.1.2.1)) else J Ud) λs=>J s
def F27E:Zm:=Yu 248 f248 83 [] (hS (hS (.seq (hS (.cnd Ub .leaf (.seq (.reg [(28,Y4)]) (.cnd Ub .leaf (.seq (.reg [(36,Y4)]) .leaf))))) (.seq (.reg [(4,Y4)]) .leaf)))) (.p Wr (.q Wr)) (.pd Y4) (u2 F27)
def F23:(El Wr)->Option (List (El W0)):=λh=>Va (Tr.unc h) λ_=>Va (Tr.unc h) λi=>Va (ZD (decide ((0:El (Tr.Ty.int .i64))<=i.2.2.2.1/\i.2.2.2.1<=i.2.2.2.1/\i.2.2.2.1<=(↑ZI:El (Tr.Ty.int .i64))))) λ_=>Va (Tr.unc h) λ_=>Va (Tr.unc h) λm=>Va (run (λf=>bif U ((0:Int)<=f.2.2) then Va (Tr.unc f.1) λ_=>Va (Tr.unc f.1) λn=>Va (Zv f.2.2 (Ve f.2.1)) λl=>Va f.2.1[l]? λ_=>Va (Tr.unc f.1) λ_=>Va (Tr.unc f.1) λj=>J (.inl (j.2.1,Vk f.2.1 l n.2.2.1,Vb .i64 (f.2.2 - (1:Int)))) else J (.inr f.2.1)) (h,Vh (R i.2.2.2.1) (((0:Int),(0:Int),(0:Int),(0:Int),())),Vb .i64 (m.2.2.2.1 - (1:Int)))) λk=>J k
def F23E:Zm:=Yu 245 f245 31 [] (hS (hS (.seq (hS (.lp (en [pd 0 Wr,(3,.own W0 Ud),pd 4 Y3] []) [(.exit 0,en [(3,.own W0 Ud)] [])] .leaf)) .leaf))) (.q Wr) (.own W0 Ud) (u1 F23)
def F24:(El Wr)->Option (El Wp):=λh=>Va (Tr.unc h) λ_=>Va (Tr.unc h) λi=>Va (ZD (decide ((0:El (Tr.Ty.int .i64))<=i.2.2.2.1/\i.2.2.2.1<=i.2.2.2.1/\i.2.2.2.1<=(↑ZI:El (Tr.Ty.int .i64))))) λ_=>Va (Tr.unc h) λ_=>Va (Tr.unc h) λm=>Va (run (λf=>bif U ((0:Int)<=f.2.2) then Va (Tr.unc f.1) λ_=>Va (Tr.unc f.1) λn=>Va (Zv f.2.2 (Ve f.2.1)) λl=>Va f.2.1[l]? λ_=>Va (Tr.unc f.1) λ_=>Va (Tr.unc f.1) λj=>J (.inl (j.2.1,Vk f.2.1 l n.2.2.1,Vb .i64 (f.2.2 - (1:Int)))) else J (.inr f.2.1)) (h,Vh (R i.2.2.2.1) (((0:Int),(0:Int),(0:Int),(0:Int),())),Vb .i64 (m.2.2.2.1 - (1:Int)))) λk=>J k
def F24E:Zm:=Yu 245 f245 31 [] (hS (hS (.seq (hS (.lp (en [pd 0 Wr,(3,.own W0 Ud),pd 4 Y3] []) [(.exit 0,en [(3,.own W0 Ud)] [])] .leaf)) .leaf))) (.q Wr) (.pd Wp) (u1 F24)
def F30:(El Y3)->(El Y3)->(El Y3)->Option (El Y4):=λf h i=>Va (bif U (h<=f) then J Uc else J (U (Vb .u64 (Vb .u64 h - Vb .u64 f)<=Vb .u64 i))) λj=>J j
def F30E:Zm:=Yu 253 f253 20 [] (hS (.seq (.reg [(6,Y4)]) .leaf)) (.p Y3 (.p Y3 (.q Y3))) (.pd Y4) (u3 F30)
def F25:(El Wr)->(El J2)->(El Wp)->(El Y3)->Option (El Y3):=λf j k h=>Va (bif U ((0:Int)<h) then Va (idx k (Vb .i64 (h - (1:Int)))) λn=>Va (idx k h) λo=>Va (Tr.unc f) λ_=>Va (Tr.unc f) λl=>Va l.1 λ_=>Va l.1 λp=>Va (F30 n.2.1 o.1 p.2.2.1) λq=>J q else J Ud) λr=>bif r then Va (Tr.unc f) λ_=>Va (Tr.unc f) λm=>Va m.1 λ_=>Va m.1 λi=>J (Tr.imax (0:Int) (Vb .i64 (j.2.1 - i.2.1))) else J j.2.1
def F25E:Zm:=Yu 246 f246 45 [F30E] (hS (.seq (.seq (.reg [(31,Y4)]) .leaf) .leaf)) (.p Wr (.p J2 (.p Wp (.q Y3)))) (.pd Y3) (u4 F25)
def F63:(El Gm)->Option (El Y3):=λf=>J (ZC .i64 (Vb .i64 (Vb .u64 (Vb .u64 (Vb .u64 (ZC .u64 (Vb .u64 (Vd (Vb .u64 (ZC .u64 (Vd (Vb .u64 (ZC .u64 (Vd f ((2:Int) ^ Min.min (R (1:Int)) (Go.IntKind.bits .u64))) (6148914691236517205:Int)+ ZC .u64 f (6148914691236517205:Int))) ((2:Int) ^ Min.min (R (2:Int)) (Go.IntKind.bits .u64))) (3689348814741910323:Int)+ ZC .u64 (Vb .u64 (ZC .u64 (Vd f ((2:Int) ^ Min.min (R (1:Int)) (Go.IntKind.bits .u64))) (6148914691236517205:Int)+ ZC .u64 f (6148914691236517205:Int))) (3689348814741910323:Int))) ((2:Int) ^ Min.min (R (4:Int)) (Go.IntKind.bits .u64))+ Vb .u64 (ZC .u64 (Vd (Vb .u64 (ZC .u64 (Vd f ((2:Int) ^ Min.min (R (1:Int)) (Go.IntKind.bits .u64))) (6148914691236517205:Int)+ ZC .u64 f (6148914691236517205:Int))) ((2:Int) ^ Min.min (R (2:Int)) (Go.IntKind.bits .u64))) (3689348814741910323:Int)+ ZC .u64 (Vb .u64 (ZC .u64 (Vd f ((2:Int) ^ Min.min (R (1:Int)) (Go.IntKind.bits .u64))) (6148914691236517205:Int)+ ZC .u64 f (6148914691236517205:Int))) (3689348814741910323:Int)))) (1085102592571150095:Int)+ Vd (ZC .u64 (Vb .u64 (Vd (Vb .u64 (ZC .u64 (Vd (Vb .u64 (ZC .u64 (Vd f ((2:Int) ^ Min.min (R (1:Int)) (Go.IntKind.bits .u64))) (6148914691236517205:Int)+ ZC .u64 f (6148914691236517205:Int))) ((2:Int) ^ Min.min (R (2:Int)) (Go.IntKind.bits .u64))) (3689348814741910323:Int)+ ZC .u64 (Vb .u64 (ZC .u64 (Vd f ((2:Int) ^ Min.min (R (1:Int)) (Go.IntKind.bits .u64))) (6148914691236517205:Int)+ ZC .u64 f (6148914691236517205:Int))) (3689348814741910323:Int))) ((2:Int) ^ Min.min (R (4:Int)) (Go.IntKind.bits .u64))+ Vb .u64 (ZC .u64 (Vd (Vb .u64 (ZC .u64 (Vd f ((2:Int) ^ Min.min (R (1:Int)) (Go.IntKind.bits .u64))) (6148914691236517205:Int)+ ZC .u64 f (6148914691236517205:Int))) ((2:Int) ^ Min.min (R (2:Int)) (Go.IntKind.bits .u64))) (3689348814741910323:Int)+ ZC .u64 (Vb .u64 (ZC .u64 (Vd f ((2:Int) ^ Min.min (R (1:Int)) (Go.IntKind.bits .u64))) (6148914691236517205:Int)+ ZC .u64 f (6148914691236517205:Int))) (3689348814741910323:Int)))) (1085102592571150095:Int)) ((2:Int) ^ Min.min (R (8:Int)) (Go.IntKind.bits .u64)))+ Vd (Vb .u64 (ZC .u64 (Vb .u64 (Vd (Vb .u64 (ZC .u64 (Vd (Vb .u64 (ZC .u64 (Vd f ((2:Int) ^ Min.min (R (1:Int)) (Go.IntKind.bits .u64))) (6148914691236517205:Int)+ ZC .u64 f (6148914691236517205:Int))) ((2:Int) ^ Min.min (R (2:Int)) (Go.IntKind.bits .u64))) (3689348814741910323:Int)+ ZC .u64 (Vb .u64 (ZC .u64 (Vd f ((2:Int) ^ Min.min (R (1:Int)) (Go.IntKind.bits .u64))) (6148914691236517205:Int)+ ZC .u64 f (6148914691236517205:Int))) (3689348814741910323:Int))) ((2:Int) ^ Min.min (R (4:Int)) (Go.IntKind.bits .u64))+ Vb .u64 (ZC .u64 (Vd (Vb .u64 (ZC .u64 (Vd f ((2:Int) ^ Min.min (R (1:Int)) (Go.IntKind.bits .u64))) (6148914691236517205:Int)+ ZC .u64 f (6148914691236517205:Int))) ((2:Int) ^ Min.min (R (2:Int)) (Go.IntKind.bits .u64))) (3689348814741910323:Int)+ ZC .u64 (Vb .u64 (ZC .u64 (Vd f ((2:Int) ^ Min.min (R (1:Int)) (Go.IntKind.bits .u64))) (6148914691236517205:Int)+ ZC .u64 f (6148914691236517205:Int))) (3689348814741910323:Int)))) (1085102592571150095:Int)+ Vd (ZC .u64 (Vb .u64 (Vd (Vb .u64 (ZC .u64 (Vd (Vb .u64 (ZC .u64 (Vd f ((2:Int) ^ Min.min (R (1:Int)) (Go.IntKind.bits .u64))) (6148914691236517205:Int)+ ZC .u64 f (6148914691236517205:Int))) ((2:Int) ^ Min.min (R (2:Int)) (Go.IntKind.bits .u64))) (3689348814741910323:Int)+ ZC .u64 (Vb .u64 (ZC .u64 (Vd f ((2:Int) ^ Min.min (R (1:Int)) (Go.IntKind.bits .u64))) (6148914691236517205:Int)+ ZC .u64 f (6148914691236517205:Int))) (3689348814741910323:Int))) ((2:Int) ^ Min.min (R (4:Int)) (Go.IntKind.bits .u64))+ Vb .u64 (ZC .u64 (Vd (Vb .u64 (ZC .u64 (Vd f ((2:Int) ^ Min.min (R (1:Int)) (Go.IntKind.bits .u64))) (6148914691236517205:Int)+ ZC .u64 f (6148914691236517205:Int))) ((2:Int) ^ Min.min (R (2:Int)) (Go.IntKind.bits .u64))) (3689348814741910323:Int)+ ZC .u64 (Vb .u64 (ZC .u64 (Vd f ((2:Int) ^ Min.min (R (1:Int)) (Go.IntKind.bits .u64))) (6148914691236517205:Int)+ ZC .u64 f (6148914691236517205:Int))) (3689348814741910323:Int)))) (1085102592571150095:Int)) ((2:Int) ^ Min.min (R (8:Int)) (Go.IntKind.bits .u64)))) ((2:Int) ^ Min.min (R (16:Int)) (Go.IntKind.bits .u64)))+ Vd (Vb .u64 (Vb .u64 (ZC .u64 (Vb .u64 (Vd (Vb .u64 (ZC .u64 (Vd (Vb .u64 (ZC .u64 (Vd f ((2:Int) ^ Min.min (R (1:Int)) (Go.IntKind.bits .u64))) (6148914691236517205:Int)+ ZC .u64 f (6148914691236517205:Int))) ((2:Int) ^ Min.min (R (2:Int)) (Go.IntKind.bits .u64))) (3689348814741910323:Int)+ ZC .u64 (Vb .u64 (ZC .u64 (Vd f ((2:Int) ^ Min.min (R (1:Int)) (Go.IntKind.bits .u64))) (6148914691236517205:Int)+ ZC .u64 f (6148914691236517205:Int))) (3689348814741910323:Int))) ((2:Int) ^ Min.min (R (4:Int)) (Go.IntKind.bits .u64))+ Vb .u64 (ZC .u64 (Vd (Vb .u64 (ZC .u64 (Vd f ((2:Int) ^ Min.min (R (1:Int)) (Go.IntKind.bits .u64))) (6148914691236517205:Int)+ ZC .u64 f (6148914691236517205:Int))) ((2:Int) ^ Min.min (R (2:Int)) (Go.IntKind.bits .u64))) (3689348814741910323:Int)+ ZC .u64 (Vb .u64 (ZC .u64 (Vd f ((2:Int) ^ Min.min (R (1:Int)) (Go.IntKind.bits .u64))) (6148914691236517205:Int)+ ZC .u64 f (6148914691236517205:Int))) (3689348814741910323:Int)))) (1085102592571150095:Int)+ Vd (ZC .u64 (Vb .u64 (Vd (Vb .u64 (ZC .u64 (Vd (Vb .u64 (ZC .u64 (Vd f ((2:Int) ^ Min.min (R (1:Int)) (Go.IntKind.bits .u64))) (6148914691236517205:Int)+ ZC .u64 f (6148914691236517205:Int))) ((2:Int) ^ Min.min (R (2:Int)) (Go.IntKind.bits .u64))) (3689348814741910323:Int)+ ZC .u64 (Vb .u64 (ZC .u64 (Vd f ((2:Int) ^ Min.min (R (1:Int)) (Go.IntKind.bits .u64))) (6148914691236517205:Int)+ ZC .u64 f (6148914691236517205:Int))) (3689348814741910323:Int))) ((2:Int) ^ Min.min (R (4:Int)) (Go.IntKind.bits .u64))+ Vb .u64 (ZC .u64 (Vd (Vb .u64 (ZC .u64 (Vd f ((2:Int) ^ Min.min (R (1:Int)) (Go.IntKind.bits .u64))) (6148914691236517205:Int)+ ZC .u64 f (6148914691236517205:Int))) ((2:Int) ^ Min.min (R (2:Int)) (Go.IntKind.bits .u64))) (3689348814741910323:Int)+ ZC .u64 (Vb .u64 (ZC .u64 (Vd f ((2:Int) ^ Min.min (R (1:Int)) (Go.IntKind.bits .u64))) (6148914691236517205:Int)+ ZC .u64 f (6148914691236517205:Int))) (3689348814741910323:Int)))) (1085102592571150095:Int)) ((2:Int) ^ Min.min (R (8:Int)) (Go.IntKind.bits .u64)))+ Vd (Vb .u64 (ZC .u64 (Vb .u64 (Vd (Vb .u64 (ZC .u64 (Vd (Vb .u64 (ZC .u64 (Vd f ((2:Int) ^ Min.min (R (1:Int)) (Go.IntKind.bits .u64))) (6148914691236517205:Int)+ ZC .u64 f (6148914691236517205:Int))) ((2:Int) ^ Min.min (R (2:Int)) (Go.IntKind.bits .u64))) (3689348814741910323:Int)+ ZC .u64 (Vb .u64 (ZC .u64 (Vd f ((2:Int) ^ Min.min (R (1:Int)) (Go.IntKind.bits .u64))) (6148914691236517205:Int)+ ZC .u64 f (6148914691236517205:Int))) (3689348814741910323:Int))) ((2:Int) ^ Min.min (R (4:Int)) (Go.IntKind.bits .u64))+ Vb .u64 (ZC .u64 (Vd (Vb .u64 (ZC .u64 (Vd f ((2:Int) ^ Min.min (R (1:Int)) (Go.IntKind.bits .u64))) (6148914691236517205:Int)+ ZC .u64 f (6148914691236517205:Int))) ((2:Int) ^ Min.min (R (2:Int)) (Go.IntKind.bits .u64))) (3689348814741910323:Int)+ ZC .u64 (Vb .u64 (ZC .u64 (Vd f ((2:Int) ^ Min.min (R (1:Int)) (Go.IntKind.bits .u64))) (6148914691236517205:Int)+ ZC .u64 f (6148914691236517205:Int))) (3689348814741910323:Int)))) (1085102592571150095:Int)+ Vd (ZC .u64 (Vb .u64 (Vd (Vb .u64 (ZC .u64 (Vd (Vb .u64 (ZC .u64 (Vd f ((2:Int) ^ Min.min (R (1:Int)) (Go.IntKind.bits .u64))) (6148914691236517205:Int)+ ZC .u64 f (6148914691236517205:Int))) ((2:Int) ^ Min.min (R (2:Int)) (Go.IntKind.bits .u64))) (3689348814741910323:Int)+ ZC .u64 (Vb .u64 (ZC .u64 (Vd f ((2:Int) ^ Min.min (R (1:Int)) (Go.IntKind.bits .u64))) (6148914691236517205:Int)+ ZC .u64 f (6148914691236517205:Int))) (3689348814741910323:Int))) ((2:Int) ^ Min.min (R (4:Int)) (Go.IntKind.bits .u64))+ Vb .u64 (ZC .u64 (Vd (Vb .u64 (ZC .u64 (Vd f ((2:Int) ^ Min.min (R (1:Int)) (Go.IntKind.bits .u64))) (6148914691236517205:Int)+ ZC .u64 f (6148914691236517205:Int))) ((2:Int) ^ Min.min (R (2:Int)) (Go.IntKind.bits .u64))) (3689348814741910323:Int)+ ZC .u64 (Vb .u64 (ZC .u64 (Vd f ((2:Int) ^ Min.min (R (1:Int)) (Go.IntKind.bits .u64))) (6148914691236517205:Int)+ ZC .u64 f (6148914691236517205:Int))) (3689348814741910323:Int)))) (1085102592571150095:Int)) ((2:Int) ^ Min.min (R (8:Int)) (Go.IntKind.bits .u64)))) ((2:Int) ^ Min.min (R (16:Int)) (Go.IntKind.bits .u64)))) ((2:Int) ^ Min.min (R (32:Int)) (Go.IntKind.bits .u64))))) (127:Int))
def F63E:Zm:=Yu 254 f254 35 [] .leaf (.q Gm) (.pd Y3) (u1 F63)
def F26:(El Wr)->Option (El Zcx):=λk=>Va (F24 k) λi=>Va (run (λh=>bif U (h.2<(↑(Ve i):Int)) then Va (Tr.unc k) λ_=>Va (Tr.unc k) λA=>Va (idx A.2.2.2.2.1 h.2) λB=>bif U (B<(0:Int)) then J (.inl (h.1,Vb .i64 (h.2+(1:Int)))) else Va (sliceB (Ve i) (Ve i) (J h.2) Ub) λm=>Va (run (λl=>bif U (l.2.2<(↑(Ve (Vi (m.2 - m.1) (Vj m.1 i))):Int)) then Va (idx (Vi (m.2 - m.1) (Vj m.1 i)) l.2.2) λy=>J (.inl (Wa .u64 l.1 (Vb .u64 y.2.2.1),Wa .u64 l.2.1 (Vb .u64 y.2.2.2.1),Vb .i64 (l.2.2+(1:Int)))) else J (.inr (l.1,l.2.1))) ((0:Int),(0:Int),(0:Int))) λs=>Va (Tr.unc k) λ_=>Va (Tr.unc k) λn=>Va n.1 λ_=>Va n.1 λo=>Va (run (λf=>bif U (f.2<(↑(Ve o.1):Int)) then Va (idx o.1 f.2) λj=>Va (bif U (Vb .i64 ((↑(Ve i):Int) - h.2)<j.2.2.1) then Va (F63 s.1) λt=>bif U (t<=j.2.2.2.1) then J (U (Tr.qandNot .u64 s.2 (Vb .u64 j.2.2.2.2.2.1)=(0:Int))) else J Ud else J Ud) λu=>bif u then Va (idx i h.2) λp=>Va (Tr.unc k) λ_=>Va (Tr.unc k) λv=>Va (idx v.2.2.2.2.1 h.2) λq=>Va (F25 k j i h.2) λr=>Va (ZD (decide (Ve f.1+ Ve [(f.2,p.1,Vb .i64 ((↑(Ve i):Int) - h.2),Vb .i64 (q+r),s.1,())]<= ZI))) λ_=>J (.inl (f.1++ [(f.2,p.1,Vb .i64 ((↑(Ve i):Int) - h.2),Vb .i64 (q+r),s.1,())],Vb .i64 (f.2+(1:Int)))) else J (.inl (f.1,Vb .i64 (f.2+(1:Int)))) else J (.inr f.1)) (h.1,(0:Int))) λw=>J (.inl (w,Vb .i64 (h.2+(1:Int)))) else J (.inr h.1)) ([],(0:Int))) λx=>J x
def F26E:Zm:=Yu 249 f249 110 [F24E,F25E,F63E] (hS (hS (hS (.seq (hS (.lp (en [(3,.own HK Ud),pd 16 Y3] [0,4,15]) [(.exit 0,en [(3,.own HK Ud)] [])] (hS (hS (.seq (hS (hS (hS (.seq (hS (.lp (en [pd 6 Gm,pd 7 Gm,pd 30 Y3] [0,3,4,5,15,16,28,29]) [(.exit 2,en [pd 6 Gm,pd 7 Gm] [0,3,4,5,15,16])] .leaf)) (hS (.lp (en [(3,.own HK Ud),pd 53 Y3] [0,4,5,6,7,15,16,51,52]) [(.exit 4,en [(3,.own HK Ud)] [0,4,15,16])] (hS (hS (.seq (hS (.seq (.reg [(79,Y4)]) .leaf)) .leaf))))))))) .leaf))))) .leaf)))) (.q Wr) (.pd Zcx) (u1 F26)
def F28:(El HK)->(El HK)->Option (El Y4):=λf h=>Va (bif U (f.1=h.1) then bif U (h.2.1<=f.2.1) then bif U (f.2.2.1<=h.2.2.1) then bif U (f.2.2.2.1<=h.2.2.2.1) then J (U (Tr.qandNot .u64 f.2.2.2.2.1 h.2.2.2.2.1=(0:Int))) else J Ud else J Ud else J Ud else J Ud) λi=>J i
def F28E:Zm:=Yu 250 f250 39 [] (hS (.seq (.reg [(4,Y4)]) .leaf)) (.p HK (.q HK)) (.pd Y4) (u2 F28)
def F20:(El Wr)->(El Wr)->Option (El Y4):=λh i=>Va (bif Vg h then J Uc else bif Vg i then J Uc else Va (Tr.unc h) λ_=>Va (Tr.unc h) λt=>Va (Tr.unc i) λ_=>Va (Tr.unc i) λu=>Va (F29 t.1 u.1) λv=>bif !v then J Uc else Va (F27 h i) λw=>J !w) λx=>bif x then J Ud else Va (F26 h) λr=>Va (F26 i) λs=>Va (run (λj=>bif U (j<(↑(Ve s):Int)) then Va (idx s j) λk=>Va (run (λf=>bif U (f.2<(↑(Ve r):Int)) then Va (idx r f.2) λl=>Va (bif f.1 then J Uc else Va (F28 l k) λm=>J m) λn=>J (.inl (n,Vb .i64 (f.2+(1:Int)))) else J (.inr f.1)) (Ud,(0:Int))) λo=>bif !o then J (.inr (.inr Ud)) else J (.inl (Vb .i64 (j+(1:Int)))) else J (.inr (.inl ()))) (0:Int)) λp=>Vl (λ_=>J Uc) (λq=>J q) p
def F20E:Zm:=Yu 228 f228 60 [F29E,F27E,F26E,F28E] (hS (.seq (.seq (.reg [(34,Y4)]) .leaf) (hS (.seq (hS (.lp (en [pd 40 Y3] [5,38,39]) [(.exit 0,e0),(.ret,en [pd 4 Y4] [])] (hS (hS (.seq (hS (hS (.seq (hS (.lp (en [pd 8 Y4,pd 46 Y3] [5,7,38,39,40,44,45]) [(.exit 2,en [pd 8 Y4] [5,38,39,40])] (hS (hS (.seq (hS (.reg [(8,Y4)])) .leaf))))) .leaf))) .leaf))))) .leaf)))) (.p Wr (.q Wr)) (.pd Y4) (u2 F20)
def F84:(El Y3)->(El Y3)->(El Y3)->Option (El Y4):=λh i f=>bif U (h<=i) then Va (bif U (f<(0:Int)) then J Uc else J (U (Vb .u64 f<Vb .u64 (Vb .u64 i - Vb .u64 h)))) λj=>J j else Va (bif U (f<(0:Int)) then J (decide (Vb .u64 (Vb .u64 h - Vb .u64 i)<Vb .u64 ((0:Int) - Vb .u64 f))) else J Ud) λk=>J k
def F84E:Zm:=Yu 230 f230 35 [] (hS (.seq (hS (.cnd Ub (.seq (.reg [(6,Y4)]) .leaf) .leaf)) (.seq (.reg [(6,Y4)]) .leaf))) (.p Y3 (.p Y3 (.q Y3))) (.pd Y4) (u3 F84)
def F1(f:Int):Option Int:=Tr.lenF f
def F1S:Tr.Spec:={args:=(.cons (.pd KV) .nil),res:=(.cons (.pd Y3) .nil),fns:=[],α:=El Y3,f:=λx=>F1 x.1,unp:=λz=>(((),()),(z,()))}
theorem F1_ok:ZT Tryz.prog 233 F1S:=Tr.len_ok
def F1E:Zm:=⟨233,F1S,F1_ok⟩
def F4:(El KV)->(El KV)->Option (El Y4):=λf h=>J (U (Tr.qandNot .u64 f h=(0:Int)))
def F4E:Zm:=Yu 234 f234 9 [] .leaf (.p KV (.q KV)) (.pd Y4) (u2 F4)
def F2:(El KV)->(El KV)->Option (El KV):=λf h=>J (Wa .u64 f h)
def F2E:Zm:=Yu 232 f232 8 [] .leaf (.p KV (.q KV)) (.pd KV) (u2 F2)
def F83:(El W0)->(El KV)->(El KV)->Option (El KV×El KV):=λf h i=>Va (F2 h (Vb .u64 f.2.2.1)) λj=>Va (F2 i (Vb .u64 f.2.2.2.1)) λk=>J (j,k)
def F83E:Zm:=Zc1 231 f231 14 [F2E] .leaf (.p W0 (.cons (.var KV (.pd KV)) (.cons (.var KV (.pd KV)) .nil))) .nil (u3 F83) (λz=>(((),z.1,z.2,()),())) (λy=>(y.1.2.1,y.1.2.2.1))
def F82:(El J2)->(El Wp)->Option (El Y4):=λi f=>Va (bif U ((↑(Ve f):Int)=(0:Int)) then J Uc else bif U (i.2.2.1<(↑(Ve f):Int)) then J Uc else Va (idx f (0:Int)) λm=>Va (idx f (Vb .i64 ((↑(Ve f):Int) - (1:Int)))) λn=>Va (F84 m.1 n.1 i.2.2.2.2.1) λo=>J o) λp=>bif p then J Ud else Va (run (λh=>bif U (h.2.2<(↑(Ve f):Int)) then Va (idx f h.2.2) λq=>Va (F83 q h.1 h.2.1) λk=>J (.inl (k.1,k.2,Vb .i64 (h.2.2+(1:Int)))) else J (.inr (h.1,h.2.1))) ((0:Int),(0:Int),(0:Int))) λl=>Va (Va (F1 l.1) λr=>bif U (r<=i.2.2.2.1) then Va (F4 l.2 (Vb .u64 i.2.2.2.2.2.1)) λs=>J s else J Ud) λj=>J j
def F82E:Zm:=Yu 200 f200 59 [F84E,F83E,F1E,F4E] (hS (hS (.seq (.seq (.reg [(35,Y4)]) .leaf) (hS (hS (.seq (hS (.lp ⟨[(6,.var KV (.pd KV)),(7,.var KV (.pd KV)),pd 39 Y3],[(8,231,[6,7])],[2,37,38],[],[],[]⟩ [(.exit 0,en [(6,.var KV (.pd KV)),(7,.var KV (.pd KV))] [2])] .leaf)) (.seq (.reg [(4,Y4)]) .leaf))))))) (.p J2 (.q Wp)) (.pd Y4) (u2 F82)
def F22:(El Wr)->(El W0)->Option (El Wr×El ZK):=λh t=>bif Vg h then J ([],(40:Int)) else Va (Tr.unc h) λ_=>Va (Tr.unc h) λE=>bif U ((8:Int)<=E.2.2.2.1) then J ([],(33:Int)) else Va (Tr.unc h) λ_=>Va (Tr.unc h) λD=>Va (Tr.unc h) λ_=>Va (Tr.unc h) λs=>Va (Tr.unc h) λ_=>Va (Tr.unc h) λk=>Va (F23 ((D.1,t,Vb .i64 (s.2.2.2.1+(1:Int)),k.2.2.2.2.1,())::h)) λr=>Va (run (λi=>bif U (i.2<(↑(Ve r):Int)) then Va (Tr.unc h) λ_=>Va (Tr.unc h) λl=>Va l.1 λ_=>Va l.1 λm=>Va (run (λf=>bif U (f.2<(↑(Ve m.1):Int)) then Va (idx m.1 f.2) λn=>Va (Va (Zv i.2 (9:Nat)) λu=>Va k.2.2.2.2.1[u]? λv=>bif U (v<(0:Int)) then J Uc else Va (sliceB (Ve r) (Ve r) (J i.2) Ub) λj=>Va (F82 n (Vi (j.2 - j.1) (Vj j.1 r))) λw=>J !w) λx=>bif x then J (.inl (f.1,Vb .i64 (f.2+(1:Int)))) else Va (Zv i.2 (9:Nat)) λy=>Va k.2.2.2.2.1[y]? λo=>Va (F25 ((D.1,t,Vb .i64 (s.2.2.2.1+(1:Int)),k.2.2.2.2.1,())::h) n r i.2) λp=>Va (bif U (f.1<(0:Int)) then J Uc else J (U (Vb .i64 (o+p)<f.1))) λA=>bif A then J (.inl (Vb .i64 (o+p),Vb .i64 (f.2+(1:Int)))) else J (.inl (f.1,Vb .i64 (f.2+(1:Int)))) else J (.inr f.1)) (i.1,(0:Int))) λB=>J (.inl (B,Vb .i64 (i.2+(1:Int)))) else J (.inr i.1)) ((-1:Int),(0:Int))) λC=>Va (Zv (Vb .i64 (s.2.2.2.1+(1:Int))) (9:Nat)) λq=>Va k.2.2.2.2.1[q]? λ_=>J ((D.1,t,Vb .i64 (s.2.2.2.1+(1:Int)),Vk k.2.2.2.2.1 q C,())::h,(0:Int))
def F22E:Zm:=Zc1 226 f226 103 [F82E,F23E,F25E] (hS (hS (hS (hS (hS (hS (.seq (hS (.lp (en [pd 8 Y3,pd 41 Y3] [0,6,7,40]) [(.exit 0,en [pd 8 Y3] [6])] (hS (hS (.seq (hS (hS (.lp (en [pd 8 Y3,pd 52 Y3] [0,6,7,9,40,41,50,51]) [(.exit 2,en [pd 8 Y3] [0,6,7,40,41])] (hS (hS (.seq (hS (.seq (.seq (.reg [(70,Y4)]) .leaf) (hS (.seq (.reg [(89,Y4)]) .leaf)))) .leaf)))))) .leaf))))) .leaf))))))) (.p Wr (.q W0)) (.p Wr (.q ZK)) (u2 F22) (λz=>(((),(),()),(z.1,z.2,()))) (λy=>(y.2.1,y.2.2.1)) (rws:=[209])
def F21:(El Wr)->Option (El Y3×El Y4):=λf=>Va (bif Vg f then J Uc else Va (Tr.unc f) λ_=>Va (Tr.unc f) λp=>Va (Tr.unc f) λ_=>Va (Tr.unc f) λq=>Va (idx q.2.2.2.2.1 p.2.2.2.1) λr=>J (U (r<(0:Int)))) λs=>bif s then J ((0:Int),Ud) else Va (Tr.unc f) λ_=>Va (Tr.unc f) λt=>Va (Tr.unc f) λ_=>Va (Tr.unc f) λu=>Va (idx u.2.2.2.2.1 t.2.2.2.1) λh=>Va (Va (Tr.unc f) λ_=>Va (Tr.unc f) λi=>Va i.1 λ_=>Va i.1 λl=>bif U (l.2.2.2.1=(0:Int)) then J Uc else Va (Tr.unc f) λ_=>Va (Tr.unc f) λj=>Va j.1 λ_=>Va j.1 λm=>J (U (h<m.2.2.2.1))) λn=>bif n then J (h,Uc) else Va (Tr.unc f) λ_=>Va (Tr.unc f) λk=>Va k.1 λ_=>Va k.1 λo=>J (o.2.2.2.1,Uc)
def F21E:Zm:=Zc1 227 f227 55 [] (hS (.seq (.seq (.reg [(18,Y4)]) .leaf) (.seq (hS (.seq (.reg [(46,Y4)]) .leaf)) .leaf))) (.q Wr) (.p Y3 (.q Y4)) (u1 F21) (λz=>(((),()),(z.1,z.2,()))) (λy=>(y.2.1,y.2.2.1))
def F51:(El Y9)->Option (El Y4):=λh=>Va (run (λs0=>bif U (s0<(↑(Ve h):Int)) then Va (idx h s0) λf=>Va (bif U ((97:Int)<=(↑(Vf f):Int)) then J (U ((↑(Vf f):Int)<=(122:Int))) else J Ud) λk=>Va (bif k then J k else Va (bif U ((65:Int)<=(↑(Vf f):Int)) then J (U ((↑(Vf f):Int)<=(90:Int))) else J Ud) λl=>Va (bif l then J l else Va (bif U ((48:Int)<=(↑(Vf f):Int)) then J (U ((↑(Vf f):Int)<=(57:Int))) else J Ud) λm=>J m) λn=>J n) λo=>bif o then J (.inl (Vb .i64 (s0+(1:Int)))) else Va (bif U ((↑(Vf f):Int)=(45:Int)) then J (U ((↑(Vf f):Int)=(45:Int))) else Va (bif U ((↑(Vf f):Int)=(95:Int)) then J (U ((↑(Vf f):Int)=(95:Int))) else J (U ((↑(Vf f):Int)=(46:Int)))) λp=>J p) λq=>bif q then J (.inl (Vb .i64 (s0+(1:Int)))) else J (.inr (.inr Ud)) else J (.inr (.inl ()))) (0:Int)) λr=>Vl (λ_=>Va (bif U ((0:Int)<(↑(Ve h):Int)) then J (U ((↑(Ve h):Int)<=(32:Int))) else J Ud) λi=>J i) (λj=>J j) r
def F51E:Zm:=Yu 175 f175 48 [] (hS (.seq (hS (.lp (en [pd 3 Y3] [0]) [(.exit 0,en [] [0]),(.ret,en [pd 2 Y4] [])] (hS (.seq (hS (.seq (.seq (.reg [(14,Y4)]) (.cnd (J ((en [] [0,3,4]),[(.normal,en [pd 14 Y4] [0,3,4])])) .leaf (.seq (.reg [(14,Y4)]) (.cnd (J ((en [] [0,3,4]),[(.normal,en [pd 14 Y4] [0,3,4])])) .leaf (.reg [(14,Y4)]))))) (.cnd Ub .leaf (.seq (hS (.cnd (J ((en [] [0,3]),[(.normal,en [pd 33 Y4] [0,3])])) .leaf (hS (.cnd (J ((en [] [0,3]),[(.normal,en [pd 33 Y4] [0,3])])) .leaf .leaf)))) .leaf)))) .leaf)))) (.seq (.reg [(2,Y4)]) .leaf))) (.q Y9) (.pd Y4) (u1 F51)
def F85:(El Y3)->(El Y3)->(El Y3)->Option (El Y4):=λf h i=>Va (bif U (h<=f) then J (U (f<=i)) else J Ud) λj=>J j
def F85E:Zm:=Yu 180 f180 15 [] (hS (.seq (.reg [(6,Y4)]) .leaf)) (.p Y3 (.p Y3 (.q Y3))) (.pd Y4) (u3 F85)
def F81:(El KJ)->Option (El Y3×El ZK):=λi=>Va (Va (F85 i.2.1 (0:Int) (1000000:Int)) λo=>bif !o then J Uc else Va (F85 i.2.2.1 (0:Int) (86400:Int)) λp=>bif !p then J Uc else Va (F85 i.2.2.2.1 (0:Int) (1000000:Int)) λq=>J !q) λr=>bif r then J ((-1:Int),(2:Int)) else bif U ((16:Int)<(↑(Ve i.1):Int)) then J ((0:Int),(5:Int)) else Va (run (λf=>bif U (f.2<(↑(Ve i.1):Int)) then Va (idx i.1 f.2) λh=>Va (F51 h.1) λs=>bif !s then J (.inr (.inr (f.2,(12:Int)))) else bif Option.getD (ZW (Zr Y9) h.1 f.1) (Ud) then J (.inr (.inr (f.2,(6:Int)))) else Va (Va (F85 h.2.1 (0:Int) (1000000:Int)) λt=>bif !t then J Uc else Va (F85 h.2.2.1 (1:Int) (8:Int)) λu=>bif !u then J Uc else Va (F85 h.2.2.2.1 (1:Int) (16:Int)) λv=>bif !v then J Uc else Va (F85 h.2.2.2.2.1 (0:Int) (86400:Int)) λk=>bif !k then J Uc else Va (F85 h.2.2.2.2.2.1 (1:Int) (255:Int)) λl=>J !l) λm=>bif m then J (.inr (.inr (f.2,(2:Int)))) else J (.inl (Kv (Zr Y9) h.1 Uc f.1,Vb .i64 (f.2+(1:Int)))) else J (.inr (.inl ()))) ([],(0:Int))) λn=>Vl (λ_=>J ((0:Int),(0:Int))) (λj=>J (j.1,j.2)) n
def F81E:Zm:=Zc1 113 f113 79 [F51E,F85E] (hS (.seq (.seq (.reg [(22,Y4)]) .leaf) (hS (hS (.seq (hS (.lp (en [(4,.map Y9 Y4),pd 31 Y3] [29,30]) [(.exit 0,e0),(.ret,en [pd 2 Y3,pd 3 ZK] [])] (hS (hS (.seq (hS (hS (hS (.seq (.seq (.reg [(73,Y4)]) .leaf) .leaf)))) .leaf))))) .leaf))))) (.q KJ) (.p Y3 (.q ZK)) (u1 F81) (λz=>(((),()),(z.1,z.2,()))) (λy=>(y.2.1,y.2.2.1))
def F19:(El KJ)->Option (El Wr×El ZK):=λf=>Va (F81 f) λh=>bif !U (h.2=(0:Int)) then J ([],(20:Int)) else Va (ZD (U (Ve ([]:List Unit)+Ve f.1<=ZI))) λ_=>J ((J ([]++f.1,f.2),((0:Int),(0:Int),(0:Int),(0:Int),()),(0:Int),Tr.zeroEl D0,())::Tr.zeroEl Wr,(0:Int))
def F19S:Tr.Spec:={args:=(.cons (.pd KJ) .nil),res:=(.cons (.pd Wr) (.cons (.pd ZK) .nil)),fns:=[],α:=El Wr×El ZK,f:=λx=>F19 x.1,unp:=λz=>(((),()),(z.1,z.2,()))}
theorem F19_ok:ZT Tryz.prog 78 F19S:=Ja (rws:=[209]) (zxs:=[27]) (nt:=21) (m:=[(113,[F81E.S])]) (fn:=f78) (hint:=.leaf) (pack:=λy=>(y.2.1,y.2.2.1)) We tab_ok ⟨⟨F81E.ok,trivial⟩,trivial⟩ λx z h=>.trans (by kernel_rfl) h
end
end Q

