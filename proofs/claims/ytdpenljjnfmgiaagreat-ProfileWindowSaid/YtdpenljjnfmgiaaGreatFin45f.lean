/- The functions of the program as functions of Lean, and that the program computes them; printed by a program of mine. Conditions: none. -/
import Derived.KernelRfl
import Derived.Test.YtdpenljjnfmgiaaGreatLay45
import Derived.Test.YtdpenljjnfmgiaaGreatClo45
import Derived.Test.YtdpenljjnfmgiaaGreatSam45
import Derived.Test.YtdpenljjnfmgiaaGreatLen45
open Tr Go Go.Proofs Tryz
open Int renaming toNat ->Ve,fdiv ->Vg
open Go.IntKind renaming wrap ->Vb
open List renaming length ->U,isEmpty ->Vf,replicate ->Vh,take ->Vi,drop ->Vj,set ->Vk
open Option renaming bind ->Va
open Sum renaming inl ->L,inr ->M,elim ->Vl
open UInt8 renaming toNat ->Vd
open Option renaming some ->J,none ->Ub
open Bool renaming true ->Uc,false ->Ud
open Decidable renaming decide ->R
namespace Q
noncomputable section
abbrev hS(h:Wf):Wf:=.seq .leaf h
abbrev rL(n:Nat)(t:Ty):Wf:=.seq (.reg [(n,t)]) .leaf
abbrev rS(n:Nat)(t:Ty)(h:Wf):Wf:=.seq (rL n t) h
abbrev Y3:Ty:=.int .i64
abbrev Y4:Ty:=.bool
abbrev Y9:Ty:=.str
abbrev Zbl:Ty:=.prod Y9 (.prod Y3 (.prod Y4 (.prod Y3 .unit)))
abbrev XH:Ty:=.sl Zbl
abbrev Zbm:Ty:=.prod Y9 (.prod Y3 (.prod Y4 .unit))
abbrev XI:Ty:=.sl Zbm
abbrev D6:Ty:=.prod Y3 (.prod Y3 (.prod Y3 (.prod Y4 (.prod Y4 .unit))))
abbrev Xu:Ty:=.sl D6
abbrev X3:Ty:=.prod Y3 (.prod Y3 (.prod Y3 (.prod Y9 (.prod Y3 (.prod Y4 (.prod Y4 (.prod Xu .unit)))))))
abbrev Y24:Ty:=.sl X3
abbrev Hd:Ty:=.prod Y3 (.prod Y3 (.prod Y3 (.prod Y3 (.prod Y4 .unit))))
abbrev Y25:Ty:=.sl Hd
abbrev Wg:Ty:=.prod Y3 (.prod Y3 (.prod Y3 (.prod Y4 .unit)))
abbrev WA:Ty:=.sl Wg
abbrev Xc:Ty:=.prod Y9 (.prod Y3 (.prod Y3 (.prod Y3 (.prod Y3 (.prod Y3 .unit)))))
abbrev Gk:Ty:=.sl Xc
abbrev KV:Ty:=.prod Gk (.prod Y3 (.prod Y3 (.prod Y3 .unit)))
abbrev Zd:Ty:=.prod XH (.prod XI (.prod Y24 (.prod Y25 (.prod WA (.prod KV .unit)))))
abbrev Zk:Ty:=.prod Y3 (.prod Y3 (.prod Y3 (.prod Y4 (.prod Y3 (.prod Y3 (.prod Y4 (.prod Y4 (.prod Y3 (.prod Y4 .unit)))))))))
abbrev ZJ:Ty:=.int .i64
abbrev Ki:Ty:=.prod Y4 (.prod Y3 (.prod Y3 (.prod Y3 (.prod Y3 (.prod Y3 (.prod Y3 (.prod Y3 (.prod Y4 .unit))))))))
abbrev JQ:Ty:=.sl Ki
abbrev Jr:Ty:=.sl Y3
abbrev Xt:Ty:=.pt KV
abbrev WZ:Ty:=.prod Y3 (.prod Y3 (.prod Y3 (.prod Y3 .unit)))
abbrev RM:Ty:=.arr 9 Y3
abbrev Wr:Ty:=.lk Xt (.prod WZ (.prod Y3 (.prod RM .unit)))
abbrev Y94:Ty:=.prod Y3 (.prod Y3 (.prod Y3 (.prod Y3 (.prod Y3 (.prod Y4 (.prod Wr (.prod JQ .unit)))))))
abbrev Y91:Ty:=.pt Y94
abbrev Wq:Ty:=.sl Y91
abbrev Wp:Ty:=.sl WZ
abbrev ZG:Ty:=.sl Jr
abbrev Zcc:Ty:=.sl Wq
abbrev Zbn:Ty:=.prod Zd (.prod Zk (.prod ZG (.prod Zcc (.prod Wq (.prod Wq .unit)))))
abbrev GQ:Ty:=.int .u64
abbrev Ze7:Ty:=.prod Xt (.prod Wr (.prod WZ (.prod Y3 (.prod RM .unit))))
abbrev Wz:Ty:=.prod Y91 (.prod Y3 (.prod Y3 (.prod Y4 (.prod WZ (.prod Jr .unit)))))
abbrev K0:Ty:=.int .u64
abbrev Zle:Ty:=.ref
abbrev Gl:Ty:=.prod Y3 (.prod Y3 (.prod Y3 (.prod Y3 (.prod GQ .unit))))
abbrev Zdv:Ty:=.sl Gl
def tyTab:V (Nat×Ty):=[(3,Y3),(4,Y4),(9,Y9),(128,Zbl),(22,XH),(130,Zbm),(23,XI),(145,D6),(76,Xu),(78,X3),(24,Y24),(199,Hd),(25,Y25),(141,Wg),(26,WA),(133,Xc),(27,Gk),(29,KV),(31,Zd),(33,Zk),(35,ZJ),(82,Ki),(46,JQ),(87,Jr),(206,Xt),(173,WZ),(207,RM),(92,Wr),(94,Y94),(91,Y91),(89,Wq),(111,Wp),(153,ZG),(154,Zcc),(156,Zbn),(184,GQ),(209,Ze7),(212,Wz),(215,K0),(249,Zle),(322,Gl),(319,Zdv)]
def mapTab:V (Nat×Ty×Ty):=[(249,Y9,Y4)]
def pkTab:V (Nat×Nat):=[(91,1),(92,1)]
def bdTab:V (Nat×Nat):=[]
theorem Wi:Tryz.prog.follows .mixedOrders=true:=by kernel_rfl
theorem tab_ok:DW Tryz.prog tyTab mapTab pkTab bdTab=true:=by kernel_rfl
abbrev pd(n:Nat)(t:Ty):Nat×Pat:=(n,.pd t)
abbrev en(a:V (Nat×Pat))(c:V Nat):XZ:=⟨a,[],c,[],[],[]⟩
abbrev e0:XZ:=⟨[],[],[],[],[],[]⟩
variable {a b c d e g z:Type}
abbrev u1(f:a->z)(x:a×Unit):z:=f x.1
abbrev u2(f:a->b->z)(x:a×b×Unit):z:=f x.1 x.2.1
abbrev u3(f:a->b->c->z)(x:a×b×c×Unit):z:=f x.1 x.2.1 x.2.2.1
abbrev u4(f:a->b->c->d->z)(x:a×b×c×d×Unit):z:=f x.1 x.2.1 x.2.2.1 x.2.2.2.1
abbrev u5(f:a->b->c->d->e->z)(x:a×b×c×d×e×Unit):z:=f x.1 x.2.1 x.2.2.1 x.2.2.2.1 x.2.2.2.2.1
abbrev u6(f:a->b->c->d->e->g->z)(x:a×b×c×d×e×g×Unit):z:=f x.1 x.2.1 x.2.2.1 x.2.2.2.1 x.2.2.2.2.1 x.2.2.2.2.2.1
structure Zl where
 i:Nat
 S:Tr.Spec
 ok:ZR Tryz.prog i S
def Rl:V Zl->V (Nat×V Tr.Spec)
 |[]=>[]
 |e::l=>(e.i,e.S::(l.filter λd=>Nat.beq d.i e.i).map Zl.S)::Rl l
theorem ZjT:∀l,Zbe Tryz.prog (Rl l)
 |[]=>trivial
 |e::l=>⟨⟨e.ok,f e.i _ λd j=>Nat.eq_of_beq_eq_true (List.mem_filter.1 j).2⟩,ZjT l⟩
where f (i:Nat):∀l:V Zl,(∀d∈l,d.i=i)->Zbf Tryz.prog i (l.map Zl.S)
 |[],_=>trivial
 |e::l,h=>⟨h e (by simp) ▸e.ok,f i l λd j=>h d (by simp[j])⟩
abbrev _root_.Tr.Pats.p(t:Ty)(l:Pats):Pats:=.cons (.pd t) l
abbrev _root_.Tr.Pats.q(t:Ty):Pats:=.cons (.pd t) .nil
def ZdY(i:Nat)(fn:Func)(nt:Nat)(l:V Zl)(hint:Wf)(args res:Pats){α:Type}(f:KX args->Option α)(unp:α->WS args×KX res)(pack:WS args×KX res->α)(rws zxs:V Nat:=[])(fns:V FuncId:=[])(pl:Bool:=true)(kp:V (Nat×Nat×Nat):=[])
    (n:∀x z,f x=J z->Yu (mkE tyTab mapTab pkTab rws zxs (Rl l) nt bdTab) (Wh fn) fn.results hint args res pack x kp=J z:=by intro x z h;exact .trans (by kernel_rfl) h)
    (t:Tryz.prog.funcs[i]? =some fn:=by kernel_rfl) (s:fn.body=some (Wh fn):=by kernel_rfl) (o:nt=fn.ntmps:=by kernel_rfl) (j:(fn.name== "runtime.NumGoroutine")=false:=by kernel_rfl)
    (r:args.wf=true:=by kernel_rfl) (m:Nat.ble args.len nt=true:=by kernel_rfl) (k:∀y,unp (pack y)=y:=by intro y;rfl) (q:(!pl|| (Rl l).all λp=>p.2.all (·.pl))=true:=by kernel_rfl):Zl:=
 ⟨i, {args,res,fns,α,f,unp,pl,kp},W6 Wi tab_ok (ZjT l) n t s o j r m k q⟩
def YR(i:Nat)(fn:Func)(nt:Nat)(l:V Zl)(hint:Wf)(args:Pats)(r:Pat)(f:KX args->Option (WH r))(rws zxs:V Nat:=[])(fns:V FuncId:=[])(pl:Bool:=true)(u:WS args:=by repeat' constructor)
    (n:∀x z,f x=J z->Yu (mkE tyTab mapTab pkTab rws zxs (Rl l) nt bdTab) (Wh fn) fn.results hint args (Pats.cons r .nil) (λy:WS args×KX (Pats.cons r .nil)=>(y.2.1:WH r)) x []=J z:=by intro x z h;exact .trans (by kernel_rfl) h)
    (v:Tryz.prog.funcs[i]? =some fn:=by kernel_rfl) (t:fn.body=some (Wh fn):=by kernel_rfl) (o:nt=fn.ntmps:=by kernel_rfl) (j:(fn.name== "runtime.NumGoroutine")=false:=by kernel_rfl)
    (s:args.wf=true:=by kernel_rfl) (m:Nat.ble args.len nt=true:=by kernel_rfl) (k:∀y:WS args,u=y:=by intro y;rfl) (q:(!pl|| (Rl l).all λp=>p.2.all (·.pl))=true:=by kernel_rfl):Zl:=
 ZdY i fn nt l hint args (.cons r .nil) f (λz=>(u,(z,()))) (λy=>y.2.1) rws zxs fns pl [] n v t o j s m (λy=>by rw[k y.1]) q
abbrev Pz1:Pat:=.agg (.cons (.pd XH) (.cons (.pd XI) (.cons (.own X3 Ud) (.cons (.own Hd Ud) (.cons (.pd WA) (.cons (.pd KV) .nil))))))
abbrev Pz0:Pat:=.var Zd Pz1
abbrev Tz0:=El Zd×El Zk×El ZG×V (V (El Y91))×V (El Y91)×V (El Y91)×Unit
def F29(f:El Xt)(h:El Xt):Option Bool:=Qs.sameF f h
abbrev F29A:Pats:=(.cons (.pd Xt) (.cons (.pd Xt) .nil))
abbrev F29R:Pats:=(.cons (.pd Y4) .nil)
def F29S:Tr.Spec:={args:=F29A,res:=F29R,fns:=[],α:=El Y4,f:=λx=>F29 x.1 x.2.1,unp:=λz=>(((),(),()),(z,()))}
theorem F29_ok:ZR Tryz.prog 247 F29S:=Qs.sam_ok
def F29E:Zl:=⟨247,F29S,F29_ok⟩
def F27(f h:El Wr):Option (El Y4):=Va (Tr.unc f) λ_=>Va (Tr.unc f) λv=>Va (Tr.unc f) λ_=>Va (Tr.unc f) λw=>Va (idx w.2.2.2.2.1 v.2.2.2.1) λt=>Va (Tr.unc h) λ_=>Va (Tr.unc h) λx=>Va (Tr.unc h) λ_=>Va (Tr.unc h) λy=>Va (idx y.2.2.2.2.1 x.2.2.2.1) λu=>bif R (u<(0:Int)) then J Uc else Va (bif R (t<(0:Int)) then J Uc else J (R (u<t))) λk=>bif k then J Ud else Va (Va (Tr.unc f) λ_=>Va (Tr.unc f) λi=>Va i.1 λ_=>Va i.1 λl=>bif R (l.2.1=(0:Int)) then J Uc else Va (Tr.unc h) λ_=>Va (Tr.unc h) λm=>bif R (m.2.2.2.1=(0:Int)) then J Uc else Va (Tr.unc f) λ_=>Va (Tr.unc f) λj=>Va j.1 λ_=>Va j.1 λn=>J (R (Vb .i64 (t+n.2.1)<=u))) λo=>bif o then J Uc else Va (Va (Tr.unc f) λ_=>Va (Tr.unc f) λp=>bif R ((0:Int)<p.2.2.2.1) then Va (Tr.unc f) λ_=>Va (Tr.unc f) λq=>Va (Tr.unc h) λ_=>Va (Tr.unc h) λr=>J (R (r.2.2.1.2.1<=q.2.2.1.2.1)) else J Ud) λs=>J s
def F27E:Zl:=YR 248 f248 83 [] (hS (hS (.seq (hS (.cnd Ub .leaf (.seq (.reg [(28,Y4)]) (.cnd Ub .leaf (rL 36 Y4))))) (rL 4 Y4)))) (.p Wr (.q Wr)) (.pd Y4) (u2 F27)
def F23(h:El Wr):Option (V (El WZ)):=Va (Tr.unc h) λ_=>Va (Tr.unc h) λi=>Va (Zw (decide ((0:El (Tr.Ty.int .i64))<=i.2.2.2.1/\i.2.2.2.1<=i.2.2.2.1/\i.2.2.2.1<=(↑Zt:El (Tr.Ty.int .i64))))) λ_=>Va (Tr.unc h) λ_=>Va (Tr.unc h) λm=>Va (run (λf=>bif R ((0:Int)<=f.2.2) then Va (Tr.unc f.1) λ_=>Va (Tr.unc f.1) λn=>Va (Zo f.2.2 (U f.2.1)) λl=>Va f.2.1[l]? λ_=>Va (Tr.unc f.1) λ_=>Va (Tr.unc f.1) λj=>J (L (j.2.1,Vk f.2.1 l n.2.2.1,Vb .i64 (f.2.2 - (1:Int)))) else J (M f.2.1)) (h,Vh (Ve i.2.2.2.1) (((0:Int),(0:Int),(0:Int),(0:Int),())),Vb .i64 (m.2.2.2.1 - (1:Int)))) λk=>J k
def F23E:Zl:=YR 245 f245 31 [] (hS (hS (.seq (hS (.lp (en [pd 0 Wr,(3,.own WZ Ud),pd 4 Y3] []) [(.exit 0,en [(3,.own WZ Ud)] [])] .leaf)) .leaf))) (.q Wr) (.own WZ Ud) (u1 F23)
def F24(h:El Wr):Option (El Wp):=Va (Tr.unc h) λ_=>Va (Tr.unc h) λi=>Va (Zw (decide ((0:El (Tr.Ty.int .i64))<=i.2.2.2.1/\i.2.2.2.1<=i.2.2.2.1/\i.2.2.2.1<=(↑Zt:El (Tr.Ty.int .i64))))) λ_=>Va (Tr.unc h) λ_=>Va (Tr.unc h) λm=>Va (run (λf=>bif R ((0:Int)<=f.2.2) then Va (Tr.unc f.1) λ_=>Va (Tr.unc f.1) λn=>Va (Zo f.2.2 (U f.2.1)) λl=>Va f.2.1[l]? λ_=>Va (Tr.unc f.1) λ_=>Va (Tr.unc f.1) λj=>J (L (j.2.1,Vk f.2.1 l n.2.2.1,Vb .i64 (f.2.2 - (1:Int)))) else J (M f.2.1)) (h,Vh (Ve i.2.2.2.1) (((0:Int),(0:Int),(0:Int),(0:Int),())),Vb .i64 (m.2.2.2.1 - (1:Int)))) λk=>J k
def F24E:Zl:=YR 245 f245 31 [] (hS (hS (.seq (hS (.lp (en [pd 0 Wr,(3,.own WZ Ud),pd 4 Y3] []) [(.exit 0,en [(3,.own WZ Ud)] [])] .leaf)) .leaf))) (.q Wr) (.pd Wp) (u1 F24)
def F30(f h i:El Y3):Option (El Y4):=Va (bif R (h<=f) then J Uc else J (R (Vb .u64 (Vb .u64 h - Vb .u64 f)<=Vb .u64 i))) λj=>J j
def F30E:Zl:=YR 253 f253 20 [] (hS (rL 6 Y4)) (.p Y3 (.p Y3 (.q Y3))) (.pd Y4) (u3 F30)
def F25(f:El Wr)(j:El Xc)(k:El Wp)(h:El Y3):Option (El Y3):=Va (bif R ((0:Int)<h) then Va (idx k (Vb .i64 (h - (1:Int)))) λn=>Va (idx k h) λo=>Va (Tr.unc f) λ_=>Va (Tr.unc f) λl=>Va l.1 λ_=>Va l.1 λp=>Va (F30 n.2.1 o.1 p.2.2.1) λq=>J q else J Ud) λr=>bif r then Va (Tr.unc f) λ_=>Va (Tr.unc f) λm=>Va m.1 λ_=>Va m.1 λi=>J (Tr.imax (0:Int) (Vb .i64 (j.2.1 - i.2.1))) else J j.2.1
def F25E:Zl:=YR 246 f246 45 [F30E] (hS (rS 31 Y4 .leaf)) (.p Wr (.p Xc (.p Wp (.q Y3)))) (.pd Y3) (u4 F25)
def on1(x:Int):Int:=Vb .u64 (JA .u64 (Vg x ((2:Int) ^ Min.min (Ve (1:Int)) (Go.IntKind.bits .u64))) (6148914691236517205:Int)+JA .u64 x (6148914691236517205:Int))
def on2(x:Int):Int:=Vb .u64 (JA .u64 (Vg x ((2:Int) ^ Min.min (Ve (2:Int)) (Go.IntKind.bits .u64))) (3689348814741910323:Int)+JA .u64 x (3689348814741910323:Int))
def on3(x:Int):Int:=JA .u64 (Vb .u64 (Vg x ((2:Int) ^ Min.min (Ve (4:Int)) (Go.IntKind.bits .u64))+x)) (1085102592571150095:Int)
def on4(k:Int)(x:Int):Int:=Vb .u64 (x+Vg x ((2:Int) ^ Min.min (Ve k) (Go.IntKind.bits .u64)))
def Zeq(a:Int):Int:=JA .i64 (Vb .i64 (on4 32 (on4 16 (on4 8 (on3 (on2 (on1 a))))))) 127
def F64(f:El GQ):Option (El Y3):=J (Zeq f)
def F64E:Zl:=YR 254 f254 35 [] .leaf (.q GQ) (.pd Y3) (u1 F64)
def F26(k:El Wr):Option (El Zdv):=Va (F24 k) λi=>Va (run (λh=>bif R (h.2<(↑(U i):Int)) then Va (Tr.unc k) λ_=>Va (Tr.unc k) λA=>Va (idx A.2.2.2.2.1 h.2) λB=>bif R (B<(0:Int)) then J (L (h.1,Vb .i64 (h.2+(1:Int)))) else Va (sliceB (U i) (U i) (J h.2) Ub) λm=>Va (run (λl=>bif R (l.2.2<(↑(U (Vi (m.2 - m.1) (Vj m.1 i))):Int)) then Va (idx (Vi (m.2 - m.1) (Vj m.1 i)) l.2.2) λy=>J (L (Wc .u64 l.1 (Vb .u64 y.2.2.1),Wc .u64 l.2.1 (Vb .u64 y.2.2.2.1),Vb .i64 (l.2.2+(1:Int)))) else J (M (l.1,l.2.1))) ((0:Int),(0:Int),(0:Int))) λs=>Va (Tr.unc k) λ_=>Va (Tr.unc k) λn=>Va n.1 λ_=>Va n.1 λo=>Va (run (λf=>bif R (f.2<(↑(U o.1):Int)) then Va (idx o.1 f.2) λj=>Va (bif R (Vb .i64 ((↑(U i):Int) - h.2)<j.2.2.1) then Va (F64 s.1) λt=>bif R (t<=j.2.2.2.1) then J (R (Tr.qandNot .u64 s.2 (Vb .u64 j.2.2.2.2.2.1)=(0:Int))) else J Ud else J Ud) λu=>bif u then Va (idx i h.2) λp=>Va (Tr.unc k) λ_=>Va (Tr.unc k) λv=>Va (idx v.2.2.2.2.1 h.2) λq=>Va (F25 k j i h.2) λr=>Va (Zw (decide (U f.1+ U [(f.2,p.1,Vb .i64 ((↑(U i):Int) - h.2),Vb .i64 (q+r),s.1,())]<= Zt))) λ_=>J (L (f.1++ [(f.2,p.1,Vb .i64 ((↑(U i):Int) - h.2),Vb .i64 (q+r),s.1,())],Vb .i64 (f.2+(1:Int)))) else J (L (f.1,Vb .i64 (f.2+(1:Int)))) else J (M f.1)) (h.1,(0:Int))) λw=>J (L (w,Vb .i64 (h.2+(1:Int)))) else J (M h.1)) ([],(0:Int))) λx=>J x
def F26E:Zl:=YR 249 f249 110 [F24E,F25E,F64E] (hS (hS (hS (.seq (hS (.lp (en [(3,.own Gl Ud),pd 16 Y3] [0,4,15]) [(.exit 0,en [(3,.own Gl Ud)] [])] (hS (hS (.seq (hS (hS (hS (.seq (hS (.lp (en [pd 6 GQ,pd 7 GQ,pd 30 Y3] [0,3,4,5,15,16,28,29]) [(.exit 2,en [pd 6 GQ,pd 7 GQ] [0,3,4,5,15,16])] .leaf)) (hS (.lp (en [(3,.own Gl Ud),pd 53 Y3] [0,4,5,6,7,15,16,51,52]) [(.exit 4,en [(3,.own Gl Ud)] [0,4,15,16])] (hS (hS (.seq (hS (rL 79 Y4)) .leaf))))))))) .leaf))))) .leaf)))) (.q Wr) (.pd Zdv) (u1 F26)
def F28(f h:El Gl):Option (El Y4):=Va (bif R (f.1=h.1) then bif R (h.2.1<=f.2.1) then bif R (f.2.2.1<=h.2.2.1) then bif R (f.2.2.2.1<=h.2.2.2.1) then J (R (Tr.qandNot .u64 f.2.2.2.2.1 h.2.2.2.2.1=(0:Int))) else J Ud else J Ud else J Ud else J Ud) λi=>J i
def F28E:Zl:=YR 250 f250 39 [] (hS (rL 4 Y4)) (.p Gl (.q Gl)) (.pd Y4) (u2 F28)
def F20(h i:El Wr):Option (El Y4):=Va (bif Vf h then J Uc else bif Vf i then J Uc else Va (Tr.unc h) λ_=>Va (Tr.unc h) λt=>Va (Tr.unc i) λ_=>Va (Tr.unc i) λu=>Va (F29 t.1 u.1) λv=>bif !v then J Uc else Va (F27 h i) λw=>J !w) λx=>bif x then J Ud else Va (F26 h) λr=>Va (F26 i) λs=>Va (run (λj=>bif R (j<(↑(U s):Int)) then Va (idx s j) λk=>Va (run (λf=>bif R (f.2<(↑(U r):Int)) then Va (idx r f.2) λl=>Va (bif f.1 then J Uc else Va (F28 l k) λm=>J m) λn=>J (L (n,Vb .i64 (f.2+(1:Int)))) else J (M f.1)) (Ud,(0:Int))) λo=>bif !o then J (M (M Ud)) else J (L (Vb .i64 (j+(1:Int)))) else J (M (L ()))) (0:Int)) λp=>Vl (λ_=>J Uc) (λq=>J q) p
def F20E:Zl:=YR 228 f228 60 [F29E,F27E,F26E,F28E] (hS (rS 34 Y4 (hS (.seq (hS (.lp (en [pd 40 Y3] [5,38,39]) [(.exit 0,e0),(.ret,en [pd 4 Y4] [])] (hS (hS (.seq (hS (hS (.seq (hS (.lp (en [pd 8 Y4,pd 46 Y3] [5,7,38,39,40,44,45]) [(.exit 2,en [pd 8 Y4] [5,38,39,40])] (hS (hS (.seq (hS (.reg [(8,Y4)])) .leaf))))) .leaf))) .leaf))))) .leaf)))) (.p Wr (.q Wr)) (.pd Y4) (u2 F20)
def F85(h i f:El Y3):Option (El Y4):=bif R (h<=i) then Va (bif R (f<(0:Int)) then J Uc else J (R (Vb .u64 f<Vb .u64 (Vb .u64 i - Vb .u64 h)))) λj=>J j else Va (bif R (f<(0:Int)) then J (decide (Vb .u64 (Vb .u64 h - Vb .u64 i)<Vb .u64 ((0:Int) - Vb .u64 f))) else J Ud) λk=>J k
def F85E:Zl:=YR 230 f230 35 [] (hS (.seq (hS (.cnd Ub (rL 6 Y4) .leaf)) (rL 6 Y4))) (.p Y3 (.p Y3 (.q Y3))) (.pd Y4) (u3 F85)
def F1(f:Int):Option Int:=Tr.lenF f
def F1S:Tr.Spec:={args:=(.cons (.pd K0) .nil),res:=(.cons (.pd Y3) .nil),fns:=[],α:=El Y3,f:=λx=>F1 x.1,unp:=λz=>(((),()),(z,()))}
theorem F1_ok:ZR Tryz.prog 233 F1S:=Tr.len_ok
def F1E:Zl:=⟨233,F1S,F1_ok⟩
def F4(f h:El K0):Option (El Y4):=J (R (Tr.qandNot .u64 f h=(0:Int)))
def F4E:Zl:=YR 234 f234 9 [] .leaf (.p K0 (.q K0)) (.pd Y4) (u2 F4)
def F2(f h:El K0):Option (El K0):=J (Wc .u64 f h)
def F2E:Zl:=YR 232 f232 8 [] .leaf (.p K0 (.q K0)) (.pd K0) (u2 F2)
def F84(f:El WZ)(h i:El K0):Option (El K0×El K0):=Va (F2 h (Vb .u64 f.2.2.1)) λj=>Va (F2 i (Vb .u64 f.2.2.2.1)) λk=>J (j,k)
def F84E:Zl:=ZdY 231 f231 14 [F2E] .leaf (.p WZ (.cons (.var K0 (.pd K0)) (.cons (.var K0 (.pd K0)) .nil))) .nil (u3 F84) (λz=>(((),z.1,z.2,()),())) (λy=>(y.1.2.1,y.1.2.2.1))
def F83(i:El Xc)(f:El Wp):Option (El Y4):=Va (bif R ((↑(U f):Int)=(0:Int)) then J Uc else bif R (i.2.2.1<(↑(U f):Int)) then J Uc else Va (idx f (0:Int)) λm=>Va (idx f (Vb .i64 ((↑(U f):Int) - (1:Int)))) λn=>Va (F85 m.1 n.1 i.2.2.2.2.1) λo=>J o) λp=>bif p then J Ud else Va (run (λh=>bif R (h.2.2<(↑(U f):Int)) then Va (idx f h.2.2) λq=>Va (F84 q h.1 h.2.1) λk=>J (L (k.1,k.2,Vb .i64 (h.2.2+(1:Int)))) else J (M (h.1,h.2.1))) ((0:Int),(0:Int),(0:Int))) λl=>Va (Va (F1 l.1) λr=>bif R (r<=i.2.2.2.1) then Va (F4 l.2 (Vb .u64 i.2.2.2.2.2.1)) λs=>J s else J Ud) λj=>J j
def F83E:Zl:=YR 200 f200 59 [F85E,F84E,F1E,F4E] (hS (hS (rS 35 Y4 (hS (hS (.seq (hS (.lp ⟨[(6,.var K0 (.pd K0)),(7,.var K0 (.pd K0)),pd 39 Y3],[(8,231,[6,7])],[2,37,38],[],[],[]⟩ [(.exit 0,en [(6,.var K0 (.pd K0)),(7,.var K0 (.pd K0))] [2])] .leaf)) (rL 4 Y4))))))) (.p Xc (.q Wp)) (.pd Y4) (u2 F83)
def F22(h:El Wr)(t:El WZ):Option (El Wr×El ZJ):=bif Vf h then J ([],(40:Int)) else Va (Tr.unc h) λ_=>Va (Tr.unc h) λE=>bif R ((8:Int)<=E.2.2.2.1) then J ([],(33:Int)) else Va (Tr.unc h) λ_=>Va (Tr.unc h) λD=>Va (Tr.unc h) λ_=>Va (Tr.unc h) λs=>Va (Tr.unc h) λ_=>Va (Tr.unc h) λk=>Va (F23 ((D.1,t,Vb .i64 (s.2.2.2.1+(1:Int)),k.2.2.2.2.1,())::h)) λr=>Va (run (λi=>bif R (i.2<(↑(U r):Int)) then Va (Tr.unc h) λ_=>Va (Tr.unc h) λl=>Va l.1 λ_=>Va l.1 λm=>Va (run (λf=>bif R (f.2<(↑(U m.1):Int)) then Va (idx m.1 f.2) λn=>Va (Va (Zo i.2 (9:Nat)) λu=>Va k.2.2.2.2.1[u]? λv=>bif R (v<(0:Int)) then J Uc else Va (sliceB (U r) (U r) (J i.2) Ub) λj=>Va (F83 n (Vi (j.2 - j.1) (Vj j.1 r))) λw=>J !w) λx=>bif x then J (L (f.1,Vb .i64 (f.2+(1:Int)))) else Va (Zo i.2 (9:Nat)) λy=>Va k.2.2.2.2.1[y]? λo=>Va (F25 ((D.1,t,Vb .i64 (s.2.2.2.1+(1:Int)),k.2.2.2.2.1,())::h) n r i.2) λp=>Va (bif R (f.1<(0:Int)) then J Uc else J (R (Vb .i64 (o+p)<f.1))) λA=>bif A then J (L (Vb .i64 (o+p),Vb .i64 (f.2+(1:Int)))) else J (L (f.1,Vb .i64 (f.2+(1:Int)))) else J (M f.1)) (i.1,(0:Int))) λB=>J (L (B,Vb .i64 (i.2+(1:Int)))) else J (M i.1)) ((-1:Int),(0:Int))) λC=>Va (Zo (Vb .i64 (s.2.2.2.1+(1:Int))) (9:Nat)) λq=>Va k.2.2.2.2.1[q]? λ_=>J ((D.1,t,Vb .i64 (s.2.2.2.1+(1:Int)),Vk k.2.2.2.2.1 q C,())::h,(0:Int))
def F22E:Zl:=ZdY 226 f226 103 [F83E,F23E,F25E] (hS (hS (hS (hS (hS (hS (.seq (hS (.lp (en [pd 8 Y3,pd 41 Y3] [0,6,7,40]) [(.exit 0,en [pd 8 Y3] [6])] (hS (hS (.seq (hS (hS (.lp (en [pd 8 Y3,pd 52 Y3] [0,6,7,9,40,41,50,51]) [(.exit 2,en [pd 8 Y3] [0,6,7,40,41])] (hS (hS (.seq (hS (rS 70 Y4 (hS (rL 89 Y4)))) .leaf)))))) .leaf))))) .leaf))))))) (.p Wr (.q WZ)) (.p Wr (.q ZJ)) (u2 F22) (λz=>(((),(),()),(z.1,z.2,()))) (λy=>(y.2.1,y.2.2.1)) (rws:=[209])
def F21(f:El Wr):Option (El Y3×El Y4):=Va (bif Vf f then J Uc else Va (Tr.unc f) λ_=>Va (Tr.unc f) λp=>Va (Tr.unc f) λ_=>Va (Tr.unc f) λq=>Va (idx q.2.2.2.2.1 p.2.2.2.1) λr=>J (R (r<(0:Int)))) λs=>bif s then J ((0:Int),Ud) else Va (Tr.unc f) λ_=>Va (Tr.unc f) λt=>Va (Tr.unc f) λ_=>Va (Tr.unc f) λu=>Va (idx u.2.2.2.2.1 t.2.2.2.1) λh=>Va (Va (Tr.unc f) λ_=>Va (Tr.unc f) λi=>Va i.1 λ_=>Va i.1 λl=>bif R (l.2.2.2.1=(0:Int)) then J Uc else Va (Tr.unc f) λ_=>Va (Tr.unc f) λj=>Va j.1 λ_=>Va j.1 λm=>J (R (h<m.2.2.2.1))) λn=>bif n then J (h,Uc) else Va (Tr.unc f) λ_=>Va (Tr.unc f) λk=>Va k.1 λ_=>Va k.1 λo=>J (o.2.2.2.1,Uc)
def F21E:Zl:=ZdY 227 f227 55 [] (hS (rS 18 Y4 (.seq (hS (rL 46 Y4)) .leaf))) (.q Wr) (.p Y3 (.q Y4)) (u1 F21) (λz=>(((),()),(z.1,z.2,()))) (λy=>(y.2.1,y.2.2.1))
def F51(h:El Y9):Option (El Y4):=Va (run (λs0=>bif R (s0<(↑(U h):Int)) then Va (idx h s0) λf=>Va (bif R ((97:Int)<=(↑(Vd f):Int)) then J (R ((↑(Vd f):Int)<=(122:Int))) else J Ud) λk=>Va (bif k then J k else Va (bif R ((65:Int)<=(↑(Vd f):Int)) then J (R ((↑(Vd f):Int)<=(90:Int))) else J Ud) λl=>Va (bif l then J l else Va (bif R ((48:Int)<=(↑(Vd f):Int)) then J (R ((↑(Vd f):Int)<=(57:Int))) else J Ud) λm=>J m) λn=>J n) λo=>bif o then J (L (Vb .i64 (s0+(1:Int)))) else Va (bif R ((↑(Vd f):Int)=(45:Int)) then J (R ((↑(Vd f):Int)=(45:Int))) else Va (bif R ((↑(Vd f):Int)=(95:Int)) then J (R ((↑(Vd f):Int)=(95:Int))) else J (R ((↑(Vd f):Int)=(46:Int)))) λp=>J p) λq=>bif q then J (L (Vb .i64 (s0+(1:Int)))) else J (M (M Ud)) else J (M (L ()))) (0:Int)) λr=>Vl (λ_=>Va (bif R ((0:Int)<(↑(U h):Int)) then J (R ((↑(U h):Int)<=(32:Int))) else J Ud) λi=>J i) (λj=>J j) r
def F51E:Zl:=YR 175 f175 48 [] (hS (.seq (hS (.lp (en [pd 3 Y3] [0]) [(.exit 0,en [] [0]),(.ret,en [pd 2 Y4] [])] (hS (.seq (hS (.seq (.seq (.reg [(14,Y4)]) (.cnd (J ((en [] [0,3,4]),[(.normal,en [pd 14 Y4] [0,3,4])])) .leaf (.seq (.reg [(14,Y4)]) (.cnd (J ((en [] [0,3,4]),[(.normal,en [pd 14 Y4] [0,3,4])])) .leaf (.reg [(14,Y4)]))))) (.cnd Ub .leaf (.seq (hS (.cnd (J ((en [] [0,3]),[(.normal,en [pd 33 Y4] [0,3])])) .leaf (hS (.cnd (J ((en [] [0,3]),[(.normal,en [pd 33 Y4] [0,3])])) .leaf .leaf)))) .leaf)))) .leaf)))) (rL 2 Y4))) (.q Y9) (.pd Y4) (u1 F51)
def F86(f h i:El Y3):Option (El Y4):=Va (bif R (h<=f) then J (R (f<=i)) else J Ud) λj=>J j
def F86E:Zl:=YR 180 f180 15 [] (hS (rL 6 Y4)) (.p Y3 (.p Y3 (.q Y3))) (.pd Y4) (u3 F86)
def F82(i:El KV):Option (El Y3×El ZJ):=Va (Va (F86 i.2.1 (0:Int) (1000000:Int)) λo=>bif !o then J Uc else Va (F86 i.2.2.1 (0:Int) (86400:Int)) λp=>bif !p then J Uc else Va (F86 i.2.2.2.1 (0:Int) (1000000:Int)) λq=>J !q) λr=>bif r then J ((-1:Int),(2:Int)) else bif R ((16:Int)<(↑(U i.1):Int)) then J ((0:Int),(5:Int)) else Va (run (λf=>bif R (f.2<(↑(U i.1):Int)) then Va (idx i.1 f.2) λh=>Va (F51 h.1) λs=>bif !s then J (M (M (f.2,(12:Int)))) else bif Option.getD (ZT (Zs Y9) h.1 f.1) (Ud) then J (M (M (f.2,(6:Int)))) else Va (Va (F86 h.2.1 (0:Int) (1000000:Int)) λt=>bif !t then J Uc else Va (F86 h.2.2.1 (1:Int) (8:Int)) λu=>bif !u then J Uc else Va (F86 h.2.2.2.1 (1:Int) (16:Int)) λv=>bif !v then J Uc else Va (F86 h.2.2.2.2.1 (0:Int) (86400:Int)) λk=>bif !k then J Uc else Va (F86 h.2.2.2.2.2.1 (1:Int) (255:Int)) λl=>J !l) λm=>bif m then J (M (M (f.2,(2:Int)))) else J (L (Ky (Zs Y9) h.1 Uc f.1,Vb .i64 (f.2+(1:Int)))) else J (M (L ()))) ([],(0:Int))) λn=>Vl (λ_=>J ((0:Int),(0:Int))) (λj=>J (j.1,j.2)) n
def F82E:Zl:=ZdY 113 f113 79 [F51E,F86E] (hS (rS 22 Y4 (hS (hS (.seq (hS (.lp (en [(4,.map Y9 Y4),pd 31 Y3] [29,30]) [(.exit 0,e0),(.ret,en [pd 2 Y3,pd 3 ZJ] [])] (hS (hS (.seq (hS (hS (hS (rS 73 Y4 .leaf)))) .leaf))))) .leaf))))) (.q KV) (.p Y3 (.q ZJ)) (u1 F82) (λz=>(((),()),(z.1,z.2,()))) (λy=>(y.2.1,y.2.2.1))
def F19(f:El KV):Option (El Wr×El ZJ):=Va (F82 f) λh=>bif !R (h.2=(0:Int)) then J ([],(20:Int)) else Va (Zw (R (U ([]:V Unit)+U f.1<=Zt))) λ_=>J ((J ([]++f.1,f.2),((0:Int),(0:Int),(0:Int),(0:Int),()),(0:Int),Tr.zeroEl RM,())::Tr.zeroEl Wr,(0:Int))
def F19S:Tr.Spec:={args:=(.cons (.pd KV) .nil),res:=(.cons (.pd Wr) (.cons (.pd ZJ) .nil)),fns:=[],α:=El Wr×El ZJ,f:=λx=>F19 x.1,unp:=λz=>(((),()),(z.1,z.2,()))}
theorem F19_ok:ZR Tryz.prog 78 F19S:=W6 (rws:=[209]) (zxs:=[27]) (nt:=21) (m:=[(113,[F82E.S])]) (fn:=f78) (hint:=.leaf) (pack:=λy=>(y.2.1,y.2.2.1)) Wi tab_ok ⟨⟨F82E.ok,trivial⟩,trivial⟩ λx z h=>.trans (by kernel_rfl) h
end
end Q

