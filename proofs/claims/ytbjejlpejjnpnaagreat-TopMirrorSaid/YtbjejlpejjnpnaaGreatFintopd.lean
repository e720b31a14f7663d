/- The functions of the program as functions of Lean, and that the program computes them; printed by a program of mine. Conditions: none. -/
import Derived.Test.YtbjejlpejjnpnaaGreatFintopc
open Tr Go Go.Proofs
open Int renaming toNat ->Vd,fdiv ->Vf
open Go.IntKind renaming wrap ->Va
open List renaming length ->Vc,set ->Ve,replicate ->Vg,take ->Vh,drop ->Vi
open Option renaming bind ->Vb
namespace Q
noncomputable section
def F190:(El ZM)->Option (El ZM):=fun a=>
 some
 (a.1,a.2.1,a.2.2.1,a.2.2.2.1,a.2.2.2.2.1,
 ([([(102:UInt8),(114:UInt8),(101:UInt8),(101:UInt8)],(0:Int),(1:Int),(16:Int),(0:Int),(255:Int),())],(0:Int),(0:Int),(0:Int),()),())
def F190E:Zm:=ZK 18 Tryz.f18 8 [] .leaf (.q ZM) (.pd ZM) (u1 F190)
def F143:(El ZM)->Option (El Y4):=fun a=>Vb (F86 a) fun b=>some (decide (b.2.2=(0:Int)))
def F143E:Zm:=ZK 41 Tryz.f41 14 [F86E] .leaf (.q ZM) (.pd Y4) (u1 F143)
def F173:(List (El XS))->Option (List (El XS)):=fun c=>
 Vb
 (run
 (fun s0=>
 bif decide (s0.2.1<s0.2.2) then
 Vb (Zo s0.2.2 (Vc s0.1)) fun e=>
 Vb s0.1[e]? fun b=>
 Vb (Zo s0.2.1 (Vc s0.1)) fun f=>
 Vb s0.1[f]? fun g=>
 Vb (Zo s0.2.1 (Vc s0.1)) fun a=>
 Vb s0.1[a]? fun _=>
 Vb (Zo s0.2.2 (Vc (Ve s0.1 a b))) fun d=>
 Vb (Ve s0.1 a b)[d]? fun _=>
 some
 (.inl (Ve (Ve s0.1 a b) d g,Va .i64 (s0.2.1+(1:Int)),Va .i64 (s0.2.2 - (1:Int))))
 else some (.inr s0.1))
 (c,(0:Int),Va .i64 ((↑(Vc c):Int) - (1:Int))))
 fun h=>some h
def F173E:Zm:=Kg 91 Tryz.f91 28 [] (hS (.lp (en [(0,.own XS false),pd 2 Y3,pd 3 Y3] []) [(.exit 0,en [(0,.own XS false)] [])] .leaf)) (.cons (.own XS true) .nil) .nil (u1 F173) (fun z=>((z,()),())) (fun y=>y.1.1)
def F138:(El J6)->Option (El J6):=fun a=>
 Vb
 (ZD
 (decide
 ((0:El (Tr.Ty.int .i64))<=(↑(Vc a):Int)/\
 (↑(Vc a):Int)<=(↑(Vc a):Int)/\(↑(Vc a):Int)<=(↑ZE:El (Tr.Ty.int .i64)))))
 fun _=>
 Vb
 (F173
 (Vh (Min.min (Vc a) (Vc (Vg (Vd (↑(Vc a):Int)) (((0:Int),(0:Int),(0:Int),false,false,()))))) a++
 Vi (Min.min (Vc a) (Vc (Vg (Vd (↑(Vc a):Int)) (((0:Int),(0:Int),(0:Int),false,false,())))))
 (Vg (Vd (↑(Vc a):Int)) (((0:Int),(0:Int),(0:Int),false,false,())))))
 fun d=>
 Vb
 (run
 (fun b=>
 bif decide (b.2<(↑(Vc d):Int)) then
 Vb (Zo b.2 (Vc b.1)) fun f=>
 Vb b.1[f]? fun c=>
 Vb (Zo b.2 (Vc b.1)) fun e=>
 Vb b.1[e]? fun _=>
 some
 (.inl
 (Ve b.1 e
 (c.1,Va .i64 ((3155932800:Int) - c.2.2.1),Va .i64 ((3155932800:Int) - c.2.1),c.2.2.2.2.1,
 c.2.2.2.1,()),
 Va .i64 (b.2+(1:Int))))
 else some (.inr b.1))
 (d,(0:Int)))
 fun g=>some g
def F138E:Zm:=ZK 42 Tryz.f42 39 [F173E] (hS (hS (hS (hS (.seq (hS (.lp ⟨[(3,.own XS false),pd 16 Y3],[],[15],[(14,3)],[],[]⟩ [(.exit 0,en [(3,.own XS false)] [])] .leaf)) .leaf))))) (.q J6) (.pd J6) (u1 F138)
def F140:(El ZJ)->(El ZJ)->Option (El Y3):=fun a b=>
 bif !decide (a.1=b.1) then some (Va .i64 (a.1 - b.1))
 else
 bif !decide (a.2.1=b.2.1) then some (Va .i64 (a.2.1 - b.2.1))
 else some (Va .i64 (a.2.2.1 - b.2.2.1))
def F140S:Tr.Spec:= {args:=(.cons (.pd ZJ) (.cons (.pd ZJ) .nil)),res:=(.cons (.pd Y3) .nil),fns:=[],α:=El Y3,f:=fun x=>F140 x.1 x.2.1,unp:=fun z=>(((),(),()),(z,()))}
theorem F140_ok:ZX Tryz.prog 93 F140S:=XG (rws:=[]) (zxs:=[]) (nt:=32) (m:=[]) (fn:=Tryz.f93) (hint:=.leaf) (pack:=fun y=>y.2.1) Xr tab_ok trivial fun x z h=>.trans (by kernel_rfl) h
def F140E:Zm:=⟨93,F140S,F140_ok⟩
def F182:(List (El ZJ))->(El Y3)->(El Y3)->(El Y3)->(Unit)->Option (List (El ZJ)):=fun f c d g l=>
 Vb
 (run
 (fun s0=>
 bif decide (s0.2<g) then
 Vb (Zo (Va .i64 (d+s0.2)) (Vc s0.1)) fun h=>
 Vb s0.1[h]? fun b=>
 Vb (Zo (Va .i64 (c+s0.2)) (Vc s0.1)) fun i=>
 Vb s0.1[i]? fun j=>
 Vb (Zo (Va .i64 (c+s0.2)) (Vc s0.1)) fun a=>
 Vb s0.1[a]? fun _=>
 Vb (Zo (Va .i64 (d+s0.2)) (Vc (Ve s0.1 a b))) fun e=>
 Vb (Ve s0.1 a b)[e]? fun _=>some (.inl (Ve (Ve s0.1 a b) e j,Va .i64 (s0.2+(1:Int))))
 else some (.inr s0.1))
 (f,(0:Int)))
 fun k=>some k
def F182E:Zm:=Kg 246 Tryz.f246 38 [F140E] (hS (.lp (en [(0,.own ZJ false),pd 10 Y3] [1,2,3]) [(.exit 0,en [(0,.own ZJ false)] [])] .leaf)) (.cons (.own ZJ true) (.p Y3 (.p Y3 (.p Y3 (.cons (.fn 93 .nil) .nil))))) .nil (u5 F182) (fun z=>((z,(),(),(),(),()),())) (fun y=>y.1.1) (fns:=[93])
def F180:(List (El ZJ))->(El Y3)->(El Y3)->(El Y3)->(Unit)->Option (List (El ZJ)):=fun c d a e i=>
 Vb
 (run
 (fun s0=>
 bif !decide (s0.2.1=s0.2.2) then
 bif decide (s0.2.2<s0.2.1) then
 Vb (F182 s0.1 (Va .i64 (a - s0.2.1)) a s0.2.2 ()) fun f=>
 some (.inl (f,Va .i64 (s0.2.1 - s0.2.2),s0.2.2))
 else
 Vb
 (F182 s0.1 (Va .i64 (a - s0.2.1))
 (Va .i64 (Va .i64 (a+s0.2.2) - s0.2.1)) s0.2.1 ())
 fun g=>some (.inl (g,s0.2.1,Va .i64 (s0.2.2 - s0.2.1)))
 else some (.inr (s0.1,s0.2.1)))
 (c,Va .i64 (a - d),Va .i64 (e - a)))
 fun b=>Vb (F182 b.1 (Va .i64 (a - b.2)) a b.2 ()) fun h=>some h
def F180S:Tr.Spec:= {args:=(.cons (.own ZJ true) (.cons (.pd Y3) (.cons (.pd Y3) (.cons (.pd Y3) (.cons (.fn 93 .nil) .nil))))),res:=.nil,fns:=[93],α:=List (El ZJ),f:=fun x=>F180 x.1 x.2.1 x.2.2.1 x.2.2.2.1 x.2.2.2.2.1,unp:=fun z=>((z,(),(),(),(),()),())}
theorem F180_ok:ZX Tryz.prog 225 F180S:=XG (rws:=[]) (zxs:=[]) (nt:=58) (m:=[(93,[F140S]),(246,[F182E.S])]) (fn:=Tryz.f225) (hint:=(hS (hS (.seq (.lp (en [(0,.own ZJ false),pd 10 Y3,pd 11 Y3] [2,4]) [(.exit 0,en [(0,.own ZJ false),pd 10 Y3] [2,4])] .leaf) .leaf)))) (pack:=fun y=>y.1.1) Xr tab_ok ⟨⟨F140_ok,trivial⟩,⟨F182E.ok,trivial⟩,trivial⟩ fun x z h=>.trans (by kernel_rfl) h
theorem ZqO {P:Program} {f:FuncId} {S:Tr.Spec} {fn:Func} (d:∀x,S.f x=none) (b:S.args.wf=true) (g:P.funcs[f]? =some fn) (e:fn.body.isNone=false) (a:(fn.name== "runtime.NumGoroutine")=false) (h:S.kp=[]):ZX P f S where
 wf:=b
 fn:=⟨fn,g,e,a⟩
 run:=fun _ _ _ _ x z _ _ _ _ _ c=>by rw[d x]at c;cases c
 kept:=.inl h
def F184(rec:(List (El ZJ))->(El Y3)->(El Y3)->(El Y3)->(Unit)->Option (List (El ZJ))):(List (El ZJ))->(El Y3)->(El Y3)->(El Y3)->(Unit)->Option (List (El ZJ)):=fun h e f g X=>
 bif decide (Va .i64 (f - e)=(1:Int)) then
 Vb
 (run
 (fun s0=>
 bif decide (s0.1<s0.2) then
 Vb
 (Zo
 (Va .i64
 (Vf (Va .u64 (Va .i64 (s0.1+s0.2))) ((2:Int) ^ Min.min (Vd (1:Int)) (Go.IntKind.bits .u64))))
 (Vc h))
 fun Q=>
 Vb h[Q]? fun R=>
 Vb (Zo e (Vc h)) fun S=>
 Vb h[S]? fun T=>
 Vb (F140 R T) fun U=>
 bif decide (U<(0:Int)) then
 some
 (.inl
 (Va .i64
 (Va .i64
 (Vf (Va .u64 (Va .i64 (s0.1+s0.2)))
 ((2:Int) ^ Min.min (Vd (1:Int)) (Go.IntKind.bits .u64)))+
 (1:Int)),
 s0.2))
 else
 some
 (.inl
 (s0.1,
 Va .i64
 (Vf (Va .u64 (Va .i64 (s0.1+s0.2)))
 ((2:Int) ^ Min.min (Vd (1:Int)) (Go.IntKind.bits .u64)))))
 else some (.inr s0.1))
 (f,g))
 fun V=>
 Vb
 (run
 (fun i=>
 bif decide (i.2<Va .i64 (V - (1:Int))) then
 Vb (Zo (Va .i64 (i.2+(1:Int))) (Vc i.1)) fun W=>
 Vb i.1[W]? fun P=>
 Vb (Zo i.2 (Vc i.1)) fun r=>
 Vb i.1[r]? fun s=>
 Vb (Zo i.2 (Vc i.1)) fun j=>
 Vb i.1[j]? fun _=>
 Vb (Zo (Va .i64 (i.2+(1:Int))) (Vc (Ve i.1 j P))) fun m=>
 Vb (Ve i.1 j P)[m]? fun _=>some (.inl (Ve (Ve i.1 j P) m s,Va .i64 (i.2+(1:Int))))
 else some (.inr i.1))
 (h,e))
 fun t=>some t
 else
 bif decide (Va .i64 (g - f)=(1:Int)) then
 Vb
 (run
 (fun c=>
 bif decide (c.1<c.2) then
 Vb (Zo f (Vc h)) fun u=>
 Vb h[u]? fun v=>
 Vb
 (Zo
 (Va .i64
 (Vf (Va .u64 (Va .i64 (c.1+c.2))) ((2:Int) ^ Min.min (Vd (1:Int)) (Go.IntKind.bits .u64))))
 (Vc h))
 fun w=>
 Vb h[w]? fun x=>
 Vb (F140 v x) fun y=>
 bif !decide (y<(0:Int)) then
 some
 (.inl
 (Va .i64
 (Va .i64
 (Vf (Va .u64 (Va .i64 (c.1+c.2)))
 ((2:Int) ^ Min.min (Vd (1:Int)) (Go.IntKind.bits .u64)))+
 (1:Int)),
 c.2))
 else
 some
 (.inl
 (c.1,
 Va .i64
 (Vf (Va .u64 (Va .i64 (c.1+c.2)))
 ((2:Int) ^ Min.min (Vd (1:Int)) (Go.IntKind.bits .u64)))))
 else some (.inr c.1))
 (e,f))
 fun z=>
 Vb
 (run
 (fun a=>
 bif decide (z<a.2) then
 Vb (Zo (Va .i64 (a.2 - (1:Int))) (Vc a.1)) fun A=>
 Vb a.1[A]? fun l=>
 Vb (Zo a.2 (Vc a.1)) fun B=>
 Vb a.1[B]? fun C=>
 Vb (Zo a.2 (Vc a.1)) fun k=>
 Vb a.1[k]? fun _=>
 Vb (Zo (Va .i64 (a.2 - (1:Int))) (Vc (Ve a.1 k l))) fun n=>
 Vb (Ve a.1 k l)[n]? fun _=>
 some (.inl (Ve (Ve a.1 k l) n C,Va .i64 (a.2 - (1:Int))))
 else some (.inr a.1))
 (h,f))
 fun D=>some D
 else
 Vb
 (bif
 decide
 (Va .i64
 (Vf (Va .u64 (Va .i64 (e+g))) ((2:Int) ^ Min.min (Vd (1:Int)) (Go.IntKind.bits .u64)))<
 f) then
 some
 (Va .i64
 (Va .i64
 (Va .i64
 (Vf (Va .u64 (Va .i64 (e+g))) ((2:Int) ^ Min.min (Vd (1:Int)) (Go.IntKind.bits .u64)))+
 f) -
 g),
 Va .i64
 (Vf (Va .u64 (Va .i64 (e+g))) ((2:Int) ^ Min.min (Vd (1:Int)) (Go.IntKind.bits .u64))))
 else some (e,f))
 fun o=>
 Vb
 (run
 (fun b=>
 bif decide (b.1<b.2) then
 Vb
 (Zo
 (Va .i64
 (Va .i64
 (Va .i64
 (Va .i64
 (Vf (Va .u64 (Va .i64 (e+g))) ((2:Int) ^ Min.min (Vd (1:Int)) (Go.IntKind.bits .u64)))+
 f) -
 (1:Int)) -
 Va .i64
 (Vf (Va .u64 (Va .i64 (b.1+b.2)))
 ((2:Int) ^ Min.min (Vd (1:Int)) (Go.IntKind.bits .u64)))))
 (Vc h))
 fun E=>
 Vb h[E]? fun F=>
 Vb
 (Zo
 (Va .i64
 (Vf (Va .u64 (Va .i64 (b.1+b.2))) ((2:Int) ^ Min.min (Vd (1:Int)) (Go.IntKind.bits .u64))))
 (Vc h))
 fun G=>
 Vb h[G]? fun H=>
 Vb (F140 F H) fun I=>
 bif !decide (I<(0:Int)) then
 some
 (.inl
 (Va .i64
 (Va .i64
 (Vf (Va .u64 (Va .i64 (b.1+b.2)))
 ((2:Int) ^ Min.min (Vd (1:Int)) (Go.IntKind.bits .u64)))+
 (1:Int)),
 b.2))
 else
 some
 (.inl
 (b.1,
 Va .i64
 (Vf (Va .u64 (Va .i64 (b.1+b.2)))
 ((2:Int) ^ Min.min (Vd (1:Int)) (Go.IntKind.bits .u64)))))
 else some (.inr b.1))
 (o.1,o.2))
 fun d=>
 Vb
 (bif decide (d<f) then
 some
 (decide
 (f<
 Va .i64
 (Va .i64
 (Va .i64
 (Vf (Va .u64 (Va .i64 (e+g))) ((2:Int) ^ Min.min (Vd (1:Int)) (Go.IntKind.bits .u64)))+
 f) -
 d)))
 else some false)
 fun J=>
 Vb
 (bif J then
 Vb
 (F180 h d f
 (Va .i64
 (Va .i64
 (Va .i64
 (Vf (Va .u64 (Va .i64 (e+g))) ((2:Int) ^ Min.min (Vd (1:Int)) (Go.IntKind.bits .u64)))+
 f) -
 d))
 ())
 fun K=>some K
 else some h)
 fun p=>
 Vb
 (bif decide (e<d) then
 some
 (decide
 (d<
 Va .i64
 (Vf (Va .u64 (Va .i64 (e+g))) ((2:Int) ^ Min.min (Vd (1:Int)) (Go.IntKind.bits .u64)))))
 else some false)
 fun L=>
 Vb
 (bif L then
 Vb
 (rec p e d
 (Va .i64
 (Vf (Va .u64 (Va .i64 (e+g))) ((2:Int) ^ Min.min (Vd (1:Int)) (Go.IntKind.bits .u64))))
 ())
 fun M=>some M
 else some p)
 fun q=>
 Vb
 (bif
 decide
 (Va .i64
 (Vf (Va .u64 (Va .i64 (e+g))) ((2:Int) ^ Min.min (Vd (1:Int)) (Go.IntKind.bits .u64)))<
 Va .i64
 (Va .i64
 (Va .i64
 (Vf (Va .u64 (Va .i64 (e+g)))
 ((2:Int) ^ Min.min (Vd (1:Int)) (Go.IntKind.bits .u64)))+
 f) -
 d)) then
 some
 (decide
 (Va .i64
 (Va .i64
 (Va .i64
 (Vf (Va .u64 (Va .i64 (e+g)))
 ((2:Int) ^ Min.min (Vd (1:Int)) (Go.IntKind.bits .u64)))+
 f) -
 d)<
 g))
 else some false)
 fun N=>
 bif N then
 Vb
 (rec q
 (Va .i64
 (Vf (Va .u64 (Va .i64 (e+g))) ((2:Int) ^ Min.min (Vd (1:Int)) (Go.IntKind.bits .u64))))
 (Va .i64
 (Va .i64
 (Va .i64
 (Vf (Va .u64 (Va .i64 (e+g)))
 ((2:Int) ^ Min.min (Vd (1:Int)) (Go.IntKind.bits .u64)))+
 f) -
 d))
 g ())
 fun O=>some O
 else some q
abbrev F183A:Pats:=(.cons (.own ZJ true) (.cons (.pd Y3) (.cons (.pd Y3) (.cons (.pd Y3) (.cons (.fn 93 .nil) .nil)))))
abbrev F183R:Pats:=.nil
def F184S(rec:(List (El ZJ))->(El Y3)->(El Y3)->(El Y3)->(Unit)->Option (List (El ZJ))):Tr.Spec:= {args:=F183A,res:=F183R,fns:=[93],α:=List (El ZJ),f:=fun x=>rec x.1 x.2.1 x.2.2.1 x.2.2.2.1 x.2.2.2.2.1,unp:=fun z=>((z,(),(),(),(),()),())}
def F183M(rec:(List (El ZJ))->(El Y3)->(El Y3)->(El Y3)->(Unit)->Option (List (El ZJ))):List (Nat×List Tr.Spec):=[(93,[F140S]),(179,[F184S rec]),(225,[F180S])]
def F183H:WL:=(.seq (hS (.cnd none (hS (hS (.seq (.lp (en [pd 10 Y3,pd 11 Y3] [0,1,4]) [(.exit 0,en [pd 10 Y3] [0,1])] .leaf) (.seq (hS (.lp (en [(0,.own ZJ false),pd 13 Y3] [10]) [(.exit 2,en [(0,.own ZJ false)] [])] .leaf)) .leaf)))) .leaf)) (.seq (hS (.cnd none (hS (hS (.seq (.lp (en [pd 14 Y3,pd 15 Y3] [0,2,4]) [(.exit 4,en [pd 14 Y3] [0,2])] .leaf) (.seq (hS (.lp (en [(0,.own ZJ false),pd 17 Y3] [14]) [(.exit 6,en [(0,.own ZJ false)] [])] .leaf)) .leaf)))) .leaf)) (hS (hS (hS (.seq (hS (.cnd (some ((en [] [0,1,2,3,4,18,19]),[(.normal,en [pd 20 Y3,pd 21 Y3] [0,1,2,3,4,18,19])])) .leaf .leaf)) (hS (.seq (.lp (en [pd 20 Y3,pd 21 Y3] [0,1,2,3,4,18,19,22]) [(.exit 8,en [pd 20 Y3] [0,1,2,3,4,18,19])] .leaf) (hS (.seq (.seq (.reg [(185,Y4)]) (.cnd (some ((en [] [1,3,4,18,20,24]),[(.normal,en [(0,.own ZJ false)] [1,3,4,18,20,24])])) .leaf .leaf)) (.seq (.seq (.reg [(199,Y4)]) (.cnd (some ((en [] [3,4,18,24]),[(.normal,en [(0,.own ZJ false)] [3,4,18,24])])) .leaf .leaf)) (.seq (.reg [(213,Y4)]) .leaf))))))))))))
def F183V(rec:(List (El ZJ))->(El Y3)->(El Y3)->(El Y3)->(Unit)->Option (List (El ZJ)))(a:List (El ZJ))(b:El Y3)(c:El Y3)(d:El Y3)(e:Unit):Option (List (El ZJ)):=GD (mkE tyTab mapTab pkTab [] [] (F183M rec) 220 bdTab) (HK Tryz.f179) Tryz.f179.results F183H F183A F183R (fun y=>y.1.1) (a,b,c,d,e,())
theorem F183_eq(rec:(List (El ZJ))->(El Y3)->(El Y3)->(El Y3)->(Unit)->Option (List (El ZJ)))(a:List (El ZJ))(b:El Y3)(c:El Y3)(d:El Y3)(e:Unit):F183V rec a b c d e=F184 rec a b c d e:=by kernel_rfl
theorem F184_ok(rec:(List (El ZJ))->(El Y3)->(El Y3)->(El Y3)->(Unit)->Option (List (El ZJ)))(a:ZX Tryz.prog 179 (F184S rec)):ZX Tryz.prog 179 (F184S (F184 rec)):=XG (m:=F183M rec) (fn:=Tryz.f179) (hint:=F183H) (pack:=fun y=>y.1.1) Xr tab_ok ⟨⟨F140_ok,trivial⟩,⟨a,trivial⟩,⟨F180_ok,trivial⟩,trivial⟩ fun x z h=>(F183_eq rec x.1 x.2.1 x.2.2.1 x.2.2.2.1 x.2.2.2.2.1).trans h
def F185:Nat->(List (El ZJ))->(El Y3)->(El Y3)->(El Y3)->(Unit)->Option (List (El ZJ))
 |0=>fun _ _ _ _ _=>none
 |k+1=>F184 (F185 k)
theorem F185_ok:∀k,ZX Tryz.prog 179 (F184S (F185 k))
 |0=>ZqO (fn:=Tryz.f179) (fun _=>rfl) (by kernel_rfl) (by kernel_rfl) (by kernel_rfl) (by kernel_rfl) rfl
 |k+1=>F184_ok _ (F185_ok k)
def F183:(List (El ZJ))->(El Y3)->(El Y3)->(El Y3)->(Unit)->Option (List (El ZJ)):=F185 100
def F183S:Tr.Spec:=F184S F183
theorem F183_ok:ZX Tryz.prog 179 F183S:=F185_ok 100
def F183E:Zm:=⟨179,F183S,F183_ok⟩
def F179:(List (El ZJ))->(El Y3)->(El Y3)->(Unit)->Option (List (El ZJ)):=fun i h j r=>
 Vb
 (run
 (fun s0=>
 bif decide (s0.2<j) then
 Vb
 (run
 (fun a=>
 bif decide (h<a.2) then
 Vb (Zo a.2 (Vc a.1)) fun k=>
 Vb a.1[k]? fun l=>
 Vb (Zo (Va .i64 (a.2 - (1:Int))) (Vc a.1)) fun m=>
 Vb a.1[m]? fun n=>
 Vb (F140 l n) fun o=>
 bif decide (o<(0:Int)) then
 Vb (Zo (Va .i64 (a.2 - (1:Int))) (Vc a.1)) fun p=>
 Vb a.1[p]? fun g=>
 Vb (Zo a.2 (Vc a.1)) fun q=>
 Vb a.1[q]? fun d=>
 Vb (Zo a.2 (Vc a.1)) fun b=>
 Vb a.1[b]? fun _=>
 Vb (Zo (Va .i64 (a.2 - (1:Int))) (Vc (Ve a.1 b g))) fun c=>
 Vb (Ve a.1 b g)[c]? fun _=>
 some (.inl (Ve (Ve a.1 b g) c d,Va .i64 (a.2 - (1:Int))))
 else some (.inr a.1)
 else some (.inr a.1))
 (s0.1,s0.2))
 fun e=>some (.inl (e,Va .i64 (s0.2+(1:Int))))
 else some (.inr s0.1))
 (i,Va .i64 (h+(1:Int))))
 fun f=>some f
def F179E:Zm:=Kg 178 Tryz.f178 53 [F140E] (hS (.lp (en [(0,.own ZJ false),pd 8 Y3] [1,2,3]) [(.exit 0,en [(0,.own ZJ false)] [])] (hS (.seq (hS (.lp (en [(0,.own ZJ false),pd 9 Y3] [1,2,3,8]) [(.exit 2,en [(0,.own ZJ false)] [1,2,3,8])] .leaf)) .leaf)))) (.cons (.own ZJ true) (.p Y3 (.p Y3 (.cons (.fn 93 .nil) .nil)))) .nil (u4 F179) (fun z=>((z,(),(),(),()),())) (fun y=>y.1.1) (fns:=[93])
def F181:(List (El ZJ))->(El Y3)->(Unit)->Option (List (El ZJ)):=fun f c l=>
 Vb
 (run
 (fun s0=>
 bif decide (s0.2.2<=c) then
 Vb (F179 s0.1 s0.2.1 s0.2.2 ()) fun g=>
 some (.inl (g,s0.2.2,Va .i64 (s0.2.2+(20:Int))))
 else some (.inr (s0.1,s0.2.1)))
 (f,(0:Int),(20:Int)))
 fun e=>
 Vb (F179 e.1 e.2 c ()) fun h=>
 Vb
 (run
 (fun a=>
 bif decide (a.2<c) then
 Vb
 (run
 (fun b=>
 bif decide (b.2.2<=c) then
 Vb (F183 b.1 b.2.1 (Va .i64 (b.2.1+a.2)) b.2.2 ()) fun i=>
 some (.inl (i,b.2.2,Va .i64 (b.2.2+Va .i64 ((2:Int) *a.2))))
 else some (.inr (b.1,b.2.1)))
 (a.1,(0:Int),Va .i64 ((2:Int) *a.2)))
 fun d=>
 bif decide (Va .i64 (d.2+a.2)<c) then
 Vb (F183 d.1 d.2 (Va .i64 (d.2+a.2)) c ()) fun j=>
 some (.inl (j,Va .i64 (a.2* (2:Int))))
 else some (.inl (d.1,Va .i64 (a.2* (2:Int))))
 else some (.inr a.1))
 (h,(20:Int)))
 fun k=>some k
def F181E:Zm:=Kg 130 Tryz.f130 63 [F140E,F179E,F183E] (hS (hS (.seq (.lp (en [(0,.own ZJ false),pd 7 Y3,pd 8 Y3] [1,2,6]) [(.exit 0,en [(0,.own ZJ false),pd 7 Y3] [1,2,6])] .leaf) (hS (.lp (en [(0,.own ZJ false),pd 6 Y3] [1,2]) [(.exit 2,en [(0,.own ZJ false)] [])] (hS (hS (.seq (.lp (en [(0,.own ZJ false),pd 7 Y3,pd 8 Y3] [1,2,6]) [(.exit 4,en [(0,.own ZJ false),pd 7 Y3] [1,2,6])] .leaf) .leaf)))))))) (.cons (.own ZJ true) (.p Y3 (.cons (.fn 93 .nil) .nil))) .nil (u3 F181) (fun z=>((z,(),(),()),())) (fun y=>y.1.1) (fns:=[93])
def F177:(List (El ZJ))->(Unit)->Option (List (El ZJ)):=fun a c=>Vb (F181 a (↑(Vc a):Int) ()) fun b=>some b
def F177E:Zm:=Kg 92 Tryz.f92 9 [F140E,F181E] .leaf (.cons (.own ZJ true) (.cons (.fn 93 .nil) .nil)) .nil (u2 F177) (fun z=>((z,(),()),())) (fun y=>y.1.1) (fns:=[93])
def F139:(El Wq)->Option (El Wq):=fun a=>
 Vb
 (ZD
 (decide
 ((0:El (Tr.Ty.int .i64))<=(↑(Vc a):Int)/\
 (↑(Vc a):Int)<=(↑(Vc a):Int)/\(↑(Vc a):Int)<=(↑ZE:El (Tr.Ty.int .i64)))))
 fun _=>
 Vb
 (run
 (fun b=>
 bif
 decide
 (b.2<
 (↑(Vc
 (Vh (Min.min (Vc a) (Vc (Vg (Vd (↑(Vc a):Int)) (((0:Int),(0:Int),(0:Int),false,()))))) a++
 Vi (Min.min (Vc a) (Vc (Vg (Vd (↑(Vc a):Int)) (((0:Int),(0:Int),(0:Int),false,())))))
 (Vg (Vd (↑(Vc a):Int)) (((0:Int),(0:Int),(0:Int),false,()))))):
 Int)) then
 Vb (Zo b.2 (Vc b.1)) fun h=>
 Vb b.1[h]? fun c=>
 Vb (Zo b.2 (Vc b.1)) fun d=>
 Vb b.1[d]? fun e=>
 Vb (Zo b.2 (Vc (Ve b.1 d (c.2.1,e.2)))) fun f=>
 Vb (Ve b.1 d (c.2.1,e.2))[f]? fun g=>
 some (.inl (Ve (Ve b.1 d (c.2.1,e.2)) f (g.1,c.1,g.2.2),Va .i64 (b.2+(1:Int))))
 else some (.inr b.1))
 (Vh (Min.min (Vc a) (Vc (Vg (Vd (↑(Vc a):Int)) (((0:Int),(0:Int),(0:Int),false,()))))) a++
 Vi (Min.min (Vc a) (Vc (Vg (Vd (↑(Vc a):Int)) (((0:Int),(0:Int),(0:Int),false,())))))
 (Vg (Vd (↑(Vc a):Int)) (((0:Int),(0:Int),(0:Int),false,()))),
 (0:Int)))
 fun i=>Vb (F177 i ()) fun j=>some j
def F139E:Zm:=ZK 43 Tryz.f43 35 [F177E,F140E] (hS (hS (hS (.seq (hS (.lp ⟨[(3,.own ZJ false),pd 14 Y3],[],[13],[(12,3)],[],[]⟩ [(.exit 0,en [(3,.own ZJ false)] [])] .leaf)) .leaf)))) (.q Wq) (.pd Wq) (u1 F139)
def F134:(El ZM)->Option (El ZM×El ZA):=fun d=>
 Vb (F143 d) fun l=>
 bif !l then some ((([]:List (El Zc8)),([]:List (El Zc9)),([]:List (El Hq)),([]:List (El H2)),([]:List (El ZJ)),(([]:List (El Y2)),(0:Int),(0:Int),(0:Int),()),()),(21:Int))
 else
 Vb (F87 d) fun m=>
 Vb
 (run
 (fun a=>
 bif decide (a.2<(↑(Vc d.2.2.1):Int)) then
 Vb (idx d.2.2.1 a.2) fun n=>
 Vb (F138 n.2.2.2.2.2.2.2.1) fun o=>
 Vb (Zo a.2 (Vc a.1.2.2.1)) fun k=>
 Vb a.1.2.2.1[k]? fun e=>
 some
 (.inl
 ((a.1.1,a.1.2.1,
 Ve a.1.2.2.1 k
 (e.1,e.2.1,e.2.2.1,e.2.2.2.1,e.2.2.2.2.1,e.2.2.2.2.2.1,e.2.2.2.2.2.2.1,o,
 e.2.2.2.2.2.2.2.2),
 a.1.2.2.2.1,a.1.2.2.2.2.1,a.1.2.2.2.2.2.1,()),
 Va .i64 (a.2+(1:Int))))
 else some (.inr a.1))
 (m,(0:Int)))
 fun p=>
 Vb
 (run
 (fun b=>
 bif decide (b.2<(↑(Vc d.2.2.2.1):Int)) then
 Vb (idx d.2.2.2.1 b.2) fun f=>
 Vb (idx d.2.2.1 f.1) fun h=>
 Vb (idx d.2.2.1 f.2.2.1) fun i=>
 Vb (Zo b.2 (Vc b.1.2.2.2.1)) fun g=>
 Vb b.1.2.2.2.1[g]? fun _=>
 some
 (.inl
 ((b.1.1,b.1.2.1,b.1.2.2.1,
 Ve b.1.2.2.2.1 g
 (f.2.2.1,
 Va .i64 (Va .i64 ((↑(Vc i.2.2.2.2.2.2.2.1):Int) - (1:Int)) - f.2.2.2.1),
 f.1,Va .i64 (Va .i64 ((↑(Vc h.2.2.2.2.2.2.2.1):Int) - (1:Int)) - f.2.1),
 f.2.2.2.2.1,()),
 b.1.2.2.2.2.1,b.1.2.2.2.2.2.1,()),
 Va .i64 (b.2+(1:Int))))
 else some (.inr b.1))
 (p,(0:Int)))
 fun c=>
 Vb (F139 d.2.2.2.2.1) fun j=>
 some ((c.1,c.2.1,c.2.2.1,c.2.2.2.1,j,c.2.2.2.2.2.1,()),(0:Int))
def F134E:Zm:=Kg 19 Tryz.f19 85 [F87E,F143E,F138E,F139E] (hS (hS (hS (.seq (hS (.lp (en [(4,DL),pd 20 Y3] [1,2,18,19]) [(.exit 0,en [(4,DL)] [1,2])] .leaf)) (.seq (hS (.lp (en [(4,DL),pd 37 Y3] [1,2,35,36]) [(.exit 2,en [(4,DL)] [1,2])] .leaf)) .leaf))))) (.q ZM) (.p ZM (.q ZA)) (u1 F134) (fun z=>(((),()),(z.1,z.2,()))) (fun y=>(y.2.1,y.2.2.1))
def F135:(El Ki)->Option (El Ki):=fun a=>some (a.2.1,a.1,Va .i64 ((3155932800:Int) - a.2.2.1), !a.2.2.2.1,a.2.2.2.2)
def F135E:Zm:=ZK 20 Tryz.f20 18 [] .leaf (.q Ki) (.pd Ki) (u1 F135)
def F187:(El ZM)->(El Ki)->Option (El Y4):=fun r a=>
 Vb (F190 r) fun e=>
 Vb
 (F189 e
 (a.1,a.2.1,a.2.2.1,true,a.2.2.2.2.1,a.2.2.2.2.2.1,a.2.2.2.2.2.2.1,a.2.2.2.2.2.2.2.1,
 a.2.2.2.2.2.2.2.2.1,false,a.2.2.2.2.2.2.2.2.2.2))
 fun s=>
 bif !s then Vb F188 fun t=>some t
 else
 Vb
 (F108 e
 (a.1,a.2.1,a.2.2.1,true,a.2.2.2.2.1,a.2.2.2.2.2.1,a.2.2.2.2.2.2.1,a.2.2.2.2.2.2.2.1,
 a.2.2.2.2.2.2.2.2.1,false,a.2.2.2.2.2.2.2.2.2.2))
 fun c=>
 Vb (F134 e) fun p=>
 Vb
 (F135
 (a.1,a.2.1,a.2.2.1,true,a.2.2.2.2.1,a.2.2.2.2.2.1,a.2.2.2.2.2.2.1,a.2.2.2.2.2.2.2.1,
 a.2.2.2.2.2.2.2.2.1,false,a.2.2.2.2.2.2.2.2.2.2))
 fun q=>
 Vb
 (bif !decide (c.2=(0:Int)) then some true else bif !decide (p.2=(0:Int)) then some true else some q.2.2.2.1)
 fun u=>
 bif u then some false
 else
 Vb (F108 p.1 q) fun d=>
 Vb
 (bif !decide (d.2=(0:Int)) then some true else some !decide ((↑(Vc d.1):Int)=(↑(Vc c.1):Int)))
 fun v=>
 bif v then some false
 else
 Vb
 (run
 (fun b=>
 bif decide (b<(↑(Vc c.1):Int)) then
 Vb
 (Vb (idx d.1 b) fun f=>
 Vb (idx c.1 b) fun g=>
 bif !decide (f.2.1.2.1=Va .i64 ((3155932800:Int) - g.2.1.1)) then some true
 else
 Vb (idx d.1 b) fun h=>
 Vb (idx c.1 b) fun i=>
 bif !decide (h.2.1.2.2.1=i.2.1.2.2.1) then some true
 else
 Vb (idx d.1 b) fun j=>
 Vb (idx c.1 b) fun k=>some !decide (j.2.1.2.2.2.2.1=k.2.1.2.2.2.2.1))
 fun l=>bif l then some (.inr (.inr false)) else some (.inl (Va .i64 (b+(1:Int))))
 else some (.inr (.inl ())))
 (0:Int))
 fun m=>Sum.elim (fun _=>Vb F188 fun n=>some n) (fun o=>some o) m
abbrev F187A:Pats:=(.cons (.pd ZM) (.cons (.pd Ki) .nil))
def F187S:Tr.Spec:= {args:=F187A,res:=(.cons (.pd Y4) .nil),fns:=[],α:=El Y4,f:=fun x=>F187 x.1 x.2.1,unp:=fun z=>(((),(),()),(z,()))}
theorem F187_ok:ZX Tryz.prog 5 F187S:=XG (rws:=[]) (zxs:=[]) (nt:=111) (m:=[(6,[F189E.S]),(7,[F188S]),(9,[F108E.S]),(18,[F190E.S]),(19,[F134E.S]),(20,[F135E.S])]) (fn:=Tryz.f5) (hint:=(hS (hS (hS (hS (hS (hS (hS (.seq (.seq (.reg [(44,Y4)]) .leaf) (hS (.seq (.seq (.reg [(59,Y4)]) .leaf) (.seq (hS (.lp (en [pd 62 Y3] [5,10,61]) [(.exit 0,e0),(.ret,en [pd 4 Y4] [])] (hS (hS (.seq (hS (.seq (.reg [(108,Y4)]) .leaf)) .leaf))))) .leaf)))))))))))) (pack:=fun y=>y.2.1) Xr tab_ok ⟨⟨F189E.ok,trivial⟩,⟨F188_ok,trivial⟩,⟨F108E.ok,trivial⟩,⟨F190E.ok,trivial⟩,⟨F134E.ok,trivial⟩,⟨F135E.ok,trivial⟩,trivial⟩ fun x z h=>.trans (by kernel_rfl) h
end
end Q

