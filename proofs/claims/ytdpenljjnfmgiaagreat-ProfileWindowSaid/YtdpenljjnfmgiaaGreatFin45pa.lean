/- The functions of the finder as functions of Lean, and that the program computes them; printed by a program of mine. Conditions: none. -/
import Derived.Test.YtdpenljjnfmgiaaGreatKep45
open Tr Go Go.Proofs Tryz
open Go.IntKind renaming wrap ->Vb
open List renaming length ->Vc
open Option renaming bind ->C,isNone ->Vd
open Option renaming some ->J,none ->Ub
open Bool renaming true ->U,false ->Ud
open Decidable renaming decide ->R
open Sum renaming inl ->L,inr ->M
namespace Q
noncomputable section
def F105(a:ZS Zd Zk ZG Y94)(b:El Y91):Option (ZS Zd Zk ZG Y94):=Tr.keepF a b
abbrev F105A:Pats:=(.cons (.fnd Zd Zk ZG Y94) (.cons (.pd Y91) .nil))
abbrev F105R:Pats:=.nil
def F105S:Tr.Spec:={args:=F105A,res:=F105R,fns:=[],α:=ZS Zd Zk ZG Y94,f:=λx=>F105 x.1 x.2.1,unp:=λz=>((z,(),()),())}
theorem F105_ok:ZR Tryz.prog 131 F105S:=Tr.keep_ok
def F184(a:El JQ):Option (V (El Ki)):=Tr.cloLegG a
def F184S:Tr.Spec:={args:=(.cons (.pd JQ) .nil),res:=(.cons (.own Ki Ud) .nil),fns:=[],α:=V (El Ki),f:=λx=>F184 x.1,unp:=λz=>(((),()),(z,()))}
theorem F184_ok:ZR Tryz.prog 57 F184S:=Tr.cloLeg_ok
def F184E:Zl:=⟨57,F184S,F184_ok⟩
def F98(c:El JQ)(a:El Ki):Option (El JQ):=C (F184 c) λb=>C (Zw (R (Vc b+Vc [a]<=Zt))) λ_=>J (b++[a])
def F98S:Tr.Spec:={args:=(.cons (.pd JQ) (.cons (.pd Ki) .nil)),res:=(.cons (.pd JQ) .nil),fns:=[],α:=El JQ,f:=λx=>F98 x.1 x.2.1,unp:=λz=>(((),(),()),(z,()))}
theorem F98_ok:ZR Tryz.prog 132 F98S:=W6 (rws:=[]) (zxs:=[]) (nt:=10) (m:=[(57,[F184S])]) (fn:=f132) (hint:=.leaf) (pack:=λy=>y.2.1) Wi tab_ok ⟨⟨F184_ok,trivial⟩,trivial⟩ λx z h=>.trans (by kernel_rfl) h
def F195(a:El Jr)(b:El Y3):Option (El Y3):=C (run (λs0=>bif R (s0<(↑(Vc a):Int)) then C (idx a s0) λc=>bif R (b=c) then J (M (M s0)) else J (L (Vb .i64 (s0+(1:Int)))) else J (M (L ()))) (0:Int)) λd=>Sum.elim (λ_=>J (-1:Int)) (λe=>J e) d
def F195E:Zl:=YR 225 f225 19 [] (hS (.seq (hS (.lp (en [pd 8 Y3] [0,1,7]) [(.exit 0,e0),(.ret,en [pd 4 Y3] [])] .leaf)) .leaf)) (.p Jr (.q Y3)) (.pd Y3) (u2 F195)
def F189(a:El Jr)(b:El Y3):Option (El Y4):=C (F195 a b) λc=>J (R ((0:Int)<=c))
def F189S:Tr.Spec:={args:=(.cons (.pd Jr) (.cons (.pd Y3) .nil)),res:=(.cons (.pd Y4) .nil),fns:=[],α:=El Y4,f:=λx=>F189 x.1 x.2.1,unp:=λz=>(((),(),()),(z,()))}
theorem F189_ok:ZR Tryz.prog 191 F189S:=W6 (rws:=[]) (zxs:=[]) (nt:=9) (m:=[(225,[F195E.S])]) (fn:=f191) (hint:=.leaf) (pack:=λy=>y.2.1) Wi tab_ok ⟨⟨F195E.ok,trivial⟩,trivial⟩ λx z h=>.trans (by kernel_rfl) h
def F186(a:El Jr):Option (V (El Y3)):=Tr.cloIntG a
def F186S:Tr.Spec:={args:=(.cons (.pd Jr) .nil),res:=(.cons (.own Y3 Ud) .nil),fns:=[],α:=V (El Y3),f:=λx=>F186 x.1,unp:=λz=>(((),()),(z,()))}
theorem F186_ok:ZR Tryz.prog 192 F186S:=Tr.cloInt_ok
def F106(b:ZS Zd Zk ZG Y94)(a:El Wz)(f:El JQ)(d e:El Y3):Option (ZS Zd Zk ZG Y94×El Y91):=C a.1 λ_=>C a.1 λg=>C (F22 g.2.2.2.2.2.2.1 a.2.2.2.2.1) λc=>bif !R (c.2=(0:Int)) then J (b,Ub) else C (F21 c.1) λh=>bif !h.2 then J (b,Ub) else C (idx b.1.1 d) λi=>C a.1 λ_=>C a.1 λj=>C a.1 λ_=>C a.1 λk=>J (b,J (d,e,Vb .i64 (e+i.2.2.2.1),Vb .i64 (j.2.2.2.1+(1:Int)),k.2.2.2.2.1,U,c.1,f,()))
def F106S:Tr.Spec:={args:=(.cons (.fnd Zd Zk ZG Y94) (.cons (.pd Wz) (.cons (.pd JQ) (.cons (.pd Y3) (.cons (.pd Y3) .nil))))),res:=(.cons (.pd Y91) .nil),fns:=[],α:=ZS Zd Zk ZG Y94×El Y91,f:=λx=>F106 x.1 x.2.1 x.2.2.1 x.2.2.2.1 x.2.2.2.2.1,unp:=λz=>((z.1,(),(),(),(),()),(z.2,()))}
theorem F106_ok:ZR Tryz.prog 193 F106S:=W6 (rws:=[94]) (zxs:=[]) (nt:=63) (m:=[(226,[F22E.S]),(227,[F21E.S])]) (fn:=f193) (hint:=.leaf) (pack:=λy=>(y.1.1,y.2.1)) Wi tab_ok ⟨⟨F22E.ok,trivial⟩,⟨F21E.ok,trivial⟩,trivial⟩ λx z h=>.trans (by kernel_rfl) h
abbrev F108A:Pats:=(.cons (.fnd Zd Zk ZG Y94) (.cons (.pd Wz) .nil))
abbrev F108R:Pats:=.nil
def F109S(rec:(ZS Zd Zk ZG Y94)->(El Wz)->Option (ZS Zd Zk ZG Y94)):Tr.Spec:={args:=F108A,res:=F108R,fns:=[],α:=ZS Zd Zk ZG Y94,f:=λx=>rec x.1 x.2.1,unp:=λz=>((z,(),()),())}
def F100(rec:(ZS Zd Zk ZG Y94)->(El Wz)->Option (ZS Zd Zk ZG Y94)):(ZS Zd Zk ZG Y94)->(El Y91)->(El Y3)->(El Y3)->Option (ZS Zd Zk ZG Y94):=λa b c d=>C b λ_=>C b λe=>bif R (e.2.2.2.1<a.2.1.2.2.2.2.1) then C (idx a.1.2.2.1 c) λf=>C (idx f.2.2.2.2.2.2.2.1 d) λg=>C (rec a (b,c,d,Ud,(g.2.2.1,(0:Int),(0:Int),(0:Int),()),([]:V (El Y3)),())) λh=>J h else J a
abbrev F99A:Pats:=(.cons (.fnd Zd Zk ZG Y94) (.cons (.pd Y91) (.cons (.pd Y3) (.cons (.pd Y3) .nil))))
abbrev F99R:Pats:=.nil
def F100S(rec:(ZS Zd Zk ZG Y94)->(El Wz)->Option (ZS Zd Zk ZG Y94)):Tr.Spec:={args:=F99A,res:=F99R,fns:=[],α:=ZS Zd Zk ZG Y94,f:=λx=>F100 rec x.1 x.2.1 x.2.2.1 x.2.2.2.1,unp:=λz=>((z,(),(),(),()),())}
def F99M(rec:(ZS Zd Zk ZG Y94)->(El Wz)->Option (ZS Zd Zk ZG Y94)):V (Nat×V Tr.Spec):=[(129,[F109S rec])]
def F99H:Wf:=.leaf
def F99V(rec:(ZS Zd Zk ZG Y94)->(El Wz)->Option (ZS Zd Zk ZG Y94))(a:ZS Zd Zk ZG Y94)(b:El Y91)(c:El Y3)(d:El Y3):Option (ZS Zd Zk ZG Y94):=Yu (mkE tyTab mapTab pkTab [212] [] (F99M rec) 38 bdTab) (Wh f79) f79.results F99H F99A F99R (λy=>y.1.1) (a,b,c,d,())
theorem F99_eq(rec:(ZS Zd Zk ZG Y94)->(El Wz)->Option (ZS Zd Zk ZG Y94))(a:ZS Zd Zk ZG Y94)(b:El Y91)(c:El Y3)(d:El Y3):F99V rec a b c d=F100 rec a b c d:=by kernel_rfl
theorem F100_ok(rec:(ZS Zd Zk ZG Y94)->(El Wz)->Option (ZS Zd Zk ZG Y94))(a:ZR Tryz.prog 129 (F109S rec)):ZR Tryz.prog 79 (F100S rec):=W6 (m:=F99M rec) (fn:=f79) (hint:=F99H) (pack:=λy=>y.1.1) Wi tab_ok ⟨⟨a,trivial⟩,trivial⟩ λx z h=>(F99_eq rec x.1 x.2.1 x.2.2.1 x.2.2.2.1).trans h
def F101(rec:(ZS Zd Zk ZG Y94)->(El Wz)->Option (ZS Zd Zk ZG Y94)):(ZS Zd Zk ZG Y94)->(El Wz)->(El Y3)->(El JQ)->(El Y91)->Option (ZS Zd Zk ZG Y94):=λe d j n k=>C (idx e.1.2.2.1 d.2.1) λo=>C (idx o.2.2.2.2.2.2.2.1 j) λp=>C (idx e.2.2.1 d.2.1) λl=>C (run (λb=>bif R (b.2<(↑(Vc l):Int)) then C (idx l b.2) λq=>C (idx b.1.1.2.2.2.1 q) λc=>C (idx b.1.1.2.2.1 c.2.2.1) λr=>C (idx r.2.2.2.2.2.2.2.1 c.2.2.2.1) λm=>C (bif !R (c.2.1=j) then J U else J (R (m.2.2.1<p.2.1))) λs=>bif s then J (L (b.1,Vb .i64 (b.2+(1:Int)))) else bif c.2.2.2.2.1 then C d.1 λ_=>C d.1 λa=>C (rec b.1 (J (a.1,a.2.1,a.2.2.1,a.2.2.2.1,a.2.2.2.2.1,a.2.2.2.2.2.1,a.2.2.2.2.2.2.1,n,a.2.2.2.2.2.2.2.2),c.2.2.1,c.2.2.2.1,U,d.2.2.2.2.1,d.2.2.2.2.2.1,())) λf=>J (L (f,Vb .i64 (b.2+(1:Int)))) else C (bif !Vd k then J m.2.2.2.1 else J Ud) λg=>bif g then C ((F100 rec) b.1 k c.2.2.1 c.2.2.2.1) λh=>J (L (h,Vb .i64 (b.2+(1:Int)))) else J (L (b.1,Vb .i64 (b.2+(1:Int)))) else J (M b.1)) (e,(0:Int))) λi=>J i
abbrev F_profile_finder_followA:Pats:=(.cons (.fnd Zd Zk ZG Y94) (.cons (.pd Wz) (.cons (.pd Y3) (.cons (.pd JQ) (.cons (.pd Y91) .nil)))))
abbrev F_profile_finder_followR:Pats:=.nil
def F101S(rec:(ZS Zd Zk ZG Y94)->(El Wz)->Option (ZS Zd Zk ZG Y94)):Tr.Spec:={args:=F_profile_finder_followA,res:=F_profile_finder_followR,fns:=[],α:=ZS Zd Zk ZG Y94,f:=λx=>F101 rec x.1 x.2.1 x.2.2.1 x.2.2.2.1 x.2.2.2.2.1,unp:=λz=>((z,(),(),(),(),()),())}
def F103(rec:(ZS Zd Zk ZG Y94)->(El Wz)->Option (ZS Zd Zk ZG Y94)):V (Nat×V Tr.Spec):=[(79,[F100S rec]),(129,[F109S rec])]
def F102:Wf:=(hS (hS (hS (.lp (en [(0,.fnd Zd Zk ZG Y94),pd 39 Y3] [2,3,4,6,10,37,38]) [(.exit 0,en [(0,.fnd Zd Zk ZG Y94)] [])] (hS (hS (.seq (hS (hS (hS (rS 74 Y4 (hS (.cnd Ub .leaf (rL 99 Y4))))))) .leaf)))))))
def F104(rec:(ZS Zd Zk ZG Y94)->(El Wz)->Option (ZS Zd Zk ZG Y94))(a:ZS Zd Zk ZG Y94)(b:El Wz)(c:El Y3)(d:El JQ)(e:El Y91):Option (ZS Zd Zk ZG Y94):=Yu (mkE tyTab mapTab pkTab [212] [] (F103 rec) 108 bdTab) (Wh f194) f194.results F102 F_profile_finder_followA F_profile_finder_followR (λy=>y.1.1) (a,b,c,d,e,())
theorem F_profile_finder_follow_eq(rec:(ZS Zd Zk ZG Y94)->(El Wz)->Option (ZS Zd Zk ZG Y94))(a:ZS Zd Zk ZG Y94)(b:El Wz)(c:El Y3)(d:El JQ)(e:El Y91):F104 rec a b c d e=F101 rec a b c d e:=by kernel_rfl
theorem F101_ok(rec:(ZS Zd Zk ZG Y94)->(El Wz)->Option (ZS Zd Zk ZG Y94))(a:ZR Tryz.prog 129 (F109S rec)):ZR Tryz.prog 194 (F101S rec):=W6 (m:=F103 rec) (fn:=f194) (hint:=F102) (pack:=λy=>y.1.1) Wi tab_ok ⟨⟨(F100_ok rec a),trivial⟩,⟨a,trivial⟩,trivial⟩ λx z h=>(F_profile_finder_follow_eq rec x.1 x.2.1 x.2.2.1 x.2.2.2.1 x.2.2.2.2.1).trans h
theorem Zvs {P:Program} {f:FuncId} {S:Tr.Spec} {fn:Func} (d:∀x,S.f x=none) (b:S.args.wf=true) (g:P.funcs[f]? =some fn) (e:fn.body.isNone=false) (a:(fn.name== "runtime.NumGoroutine")=false) (h:S.kp=[]):ZR P f S where
 wf:=b
 fn:=⟨fn,g,e,a⟩
 run:=λ_ _ _ _ x z _ _ _ _ _ c=>by rw[d x]at c;cases c
 kept:=.inl h
def F109(rec:(ZS Zd Zk ZG Y94)->(El Wz)->Option (ZS Zd Zk ZG Y94)):(ZS Zd Zk ZG Y94)->(El Wz)->Option (ZS Zd Zk ZG Y94):=λf c=>C (idx f.1.2.2.1 c.2.1) λg=>C (bif g.2.2.2.2.2.2.1 then J U else C (F189 c.2.2.2.2.2.1 c.2.1) λr=>J r) λs=>bif s then J f else C (F186 c.2.2.2.2.2.1) λq=>C (Zw (R (Vc q+Vc [c.2.1]<=Zt))) λ_=>C (idx g.2.2.2.2.2.2.2.1 c.2.2.1) λp=>C (idx f.1.2.1 g.2.2.2.2.1) λt=>C (G8 .i64 (1:Int) t.2.1) λu=>C (idx f.1.1 p.1) λv=>C (G8 .i64 (1:Int) v.2.1) λw=>C (run (λa=>bif R (a.2.2<(↑(Vc g.2.2.2.2.2.2.2.1):Int)) then C (idx g.2.2.2.2.2.2.2.1 a.2.2) λb=>C (idx a.1.1.1 b.1) λj=>C (G8 .i64 (1:Int) j.2.1) λe=>C a.2.1.1 λ_=>C a.2.1.1 λk=>C (F98 k.2.2.2.2.2.2.2.1 (U,a.2.1.2.1,a.2.1.2.2.1,a.2.2,p.1,b.1,p.2.2.1,b.2.1,a.2.1.2.2.2.1,())) λh=>C (bif b.2.2.2.2.1 then C (F106 a.1 (a.2.1.1,a.2.1.2.1,a.2.1.2.2.1,a.2.1.2.2.2.1,(a.2.1.2.2.2.2.1.1,b.2.1,Wc .i64 a.2.1.2.2.2.2.1.2.2.1 e,a.2.1.2.2.2.2.1.2.2.2),a.2.1.2.2.2.2.2) h b.1 b.2.1) λd=>C (bif !Vd d.2 then C (F105 d.1 d.2) λl=>J l else J d.1) λm=>J (m,d.2) else J (a.1,Ub)) λi=>C ((F101 rec) i.1 (a.2.1.1,a.2.1.2.1,a.2.1.2.2.1,a.2.1.2.2.2.1,(a.2.1.2.2.2.2.1.1,b.2.1,Wc .i64 a.2.1.2.2.2.2.1.2.2.1 e,a.2.1.2.2.2.2.1.2.2.2),a.2.1.2.2.2.2.2) a.2.2 h i.2) λn=>J (L (n,(a.2.1.1,a.2.1.2.1,a.2.1.2.2.1,a.2.1.2.2.2.1,(a.2.1.2.2.2.2.1.1,b.2.1,Wc .i64 a.2.1.2.2.2.2.1.2.2.1 e,a.2.1.2.2.2.2.1.2.2.2),a.2.1.2.2.2.2.2),Vb .i64 (a.2.2+(1:Int)))) else J (M a.1)) (f,(c.1,c.2.1,c.2.2.1,c.2.2.2.1,(c.2.2.2.2.1.1,c.2.2.2.2.1.2.1,Wc .i64 c.2.2.2.2.1.2.2.1 w,Wc .i64 c.2.2.2.2.1.2.2.2.1 u,c.2.2.2.2.1.2.2.2.2),q++[c.2.1],()),Vb .i64 (c.2.2.1+(1:Int)))) λo=>J o
def F108M(rec:(ZS Zd Zk ZG Y94)->(El Wz)->Option (ZS Zd Zk ZG Y94)):V (Nat×V Tr.Spec):=[(131,[F105S]),(132,[F98S]),(191,[F189S]),(192,[F186S]),(193,[F106S]),(194,[F101S rec])]
def F108H:Wf:=(hS (hS (rS 27 Y4 (hS (hS (hS (hS (hS (.lp (en [(0,.fnd Zd Zk ZG Y94),(3,.var Wz (.pd Wz)),pd 6 Y3] [4,5]) [(.exit 0,en [(0,.fnd Zd Zk ZG Y94)] [])] (hS (.seq (hS (hS (hS (hS (hS (.seq (hS (.cnd (J ((en [] [3,4,5,6,8]),[(.normal,en [(0,.fnd Zd Zk ZG Y94),pd 9 Y91] [3,4,5,6,8])])) (hS (hS (.cnd (J ((en [] [3,4,5,6,8,9]),[(.normal,en [(0,.fnd Zd Zk ZG Y94)] [3,4,5,6,8,9])])) .leaf .leaf))) .leaf)) .leaf)))))) .leaf)))))))))))
def F108V(rec:(ZS Zd Zk ZG Y94)->(El Wz)->Option (ZS Zd Zk ZG Y94))(a:ZS Zd Zk ZG Y94)(b:El Wz):Option (ZS Zd Zk ZG Y94):=Yu (mkE tyTab mapTab pkTab [] [] (F108M rec) 155 bdTab) (Wh f129) f129.results F108H F108A F108R (λy=>y.1.1) (a,b,())
theorem F108_eq(rec:(ZS Zd Zk ZG Y94)->(El Wz)->Option (ZS Zd Zk ZG Y94))(a:ZS Zd Zk ZG Y94)(b:El Wz):F108V rec a b=F109 rec a b:=by kernel_rfl
theorem F109_ok(rec:(ZS Zd Zk ZG Y94)->(El Wz)->Option (ZS Zd Zk ZG Y94))(a:ZR Tryz.prog 129 (F109S rec)):ZR Tryz.prog 129 (F109S (F109 rec)):=W6 (m:=F108M rec) (fn:=f129) (hint:=F108H) (pack:=λy=>y.1.1) Wi tab_ok ⟨⟨F105_ok,trivial⟩,⟨F98_ok,trivial⟩,⟨F189_ok,trivial⟩,⟨F186_ok,trivial⟩,⟨F106_ok,trivial⟩,⟨(F101_ok rec a),trivial⟩,trivial⟩ λx z h=>(F108_eq rec x.1 x.2.1).trans h
def F110:Nat->(ZS Zd Zk ZG Y94)->(El Wz)->Option (ZS Zd Zk ZG Y94)
 |0=>λ_ _=>Ub
 |k+1=>F109 (F110 k)
theorem F110_ok:∀k,ZR Tryz.prog 129 (F109S (F110 k))
 |0=>Zvs (fn:=f129) (λ_=>rfl) (by kernel_rfl) (by kernel_rfl) (by kernel_rfl) (by kernel_rfl) rfl
 |k+1=>F109_ok _ (F110_ok k)
def F108:(ZS Zd Zk ZG Y94)->(El Wz)->Option (ZS Zd Zk ZG Y94):=F110 100
def F108S:Tr.Spec:=F109S F108
theorem F108_ok:ZR Tryz.prog 129 F108S:=F110_ok 100
def F99:(ZS Zd Zk ZG Y94)->(El Y91)->(El Y3)->(El Y3)->Option (ZS Zd Zk ZG Y94):=F100 F108
def F99S:Tr.Spec:=F100S F108
theorem F99_ok:ZR Tryz.prog 79 F99S:=F100_ok F108 F108_ok
def F107(g:ZS Zd Zk ZG Y94)(a:El Y91):Option (ZS Zd Zk ZG Y94):=C (run (λs0=>bif R (s0.2<(↑(Vc g.1.2.2.1):Int)) then C (idx g.1.2.2.1 s0.2) λw=>C (run (λf=>bif R (f.2<(↑(Vc w.2.2.2.2.2.2.2.1):Int)) then C (idx w.2.2.2.2.2.2.2.1 f.2) λp=>C (C a λ_=>C a λx=>bif R (p.1=x.1) then bif p.2.2.2.1 then C a λ_=>C a λy=>J (R (y.2.2.1<=p.2.2.1)) else J Ud else J Ud) λz=>bif z then C (F99 f.1 a s0.2 f.2) λA=>J (L (A,Vb .i64 (f.2+(1:Int)))) else J (L (f.1,Vb .i64 (f.2+(1:Int)))) else J (M f.1)) (s0.1,(0:Int))) λh=>J (L (h,Vb .i64 (s0.2+(1:Int)))) else J (M s0.1)) (g,(0:Int))) λd=>C a λ_=>C a λi=>bif !i.2.2.2.2.2.1 then J d else C (run (λc=>bif R (c.2<(↑(Vc d.1.2.2.2.2.1):Int)) then C (idx d.1.2.2.2.2.1 c.2) λb=>C a λ_=>C a λe=>C (C a λ_=>C a λj=>bif !R (b.1=j.1) then J U else C a λ_=>C a λk=>bif R (c.1.2.1.2.2.2.2.2.1<Vb .i64 (k.2.2.2.2.1+b.2.2.1)) then J U else J (R ((3155932800:Int)<Vb .i64 (e.2.1+b.2.2.1)))) λl=>bif l then J (L (c.1,Vb .i64 (c.2+(1:Int)))) else C a λ_=>C a λm=>C a λ_=>C a λn=>C a λ_=>C a λo=>C a λ_=>C a λq=>C a λ_=>C a λr=>C a λ_=>C a λs=>C (F98 q.2.2.2.2.2.2.2.1 (Ud,(0:Int),(0:Int),(0:Int),r.1,b.2.1,s.2.1,Vb .i64 (e.2.1+b.2.2.1),Ud,())) λt=>C (F105 c.1 (J (b.2.1,Vb .i64 (e.2.1+b.2.2.1),Vb .i64 (e.2.1+b.2.2.1),m.2.2.2.1,Vb .i64 (n.2.2.2.2.1+b.2.2.1),Ud,o.2.2.2.2.2.2.1,t,()))) λu=>J (L (u,Vb .i64 (c.2+(1:Int)))) else J (M c.1)) (d,(0:Int))) λv=>J v
def F107S:Tr.Spec:={args:=(.cons (.fnd Zd Zk ZG Y94) (.cons (.pd Y91) .nil)),res:=.nil,fns:=[],α:=ZS Zd Zk ZG Y94,f:=λx=>F107 x.1 x.2.1,unp:=λz=>((z,(),()),())}
theorem F107_ok:ZR Tryz.prog 81 F107S:=W6 (rws:=[94]) (zxs:=[]) (nt:=146) (m:=[(79,[F99S]),(131,[F105S]),(132,[F98S])]) (fn:=f81) (hint:=(.seq (hS (.lp (en [(0,.fnd Zd Zk ZG Y94),pd 17 Y3] [1,15,16]) [(.exit 0,en [(0,.fnd Zd Zk ZG Y94)] [1])] (hS (hS (.seq (hS (hS (.lp (en [(0,.fnd Zd Zk ZG Y94),pd 25 Y3] [1,4,15,16,17,23,24]) [(.exit 2,en [(0,.fnd Zd Zk ZG Y94)] [1,15,16,17])] (hS (hS (.seq (hS (rL 49 Y4)) .leaf)))))) .leaf))))) (hS (hS (.lp (en [(0,.fnd Zd Zk ZG Y94),pd 68 Y3] [1,66,67]) [(.exit 4,en [(0,.fnd Zd Zk ZG Y94)] [])] (hS (hS (.seq (hS (hS (rS 104 Y4 .leaf))) .leaf)))))))) (pack:=λy=>y.1.1) Wi tab_ok ⟨⟨F99_ok,trivial⟩,⟨F105_ok,trivial⟩,⟨F98_ok,trivial⟩,trivial⟩ λx z h=>.trans (by kernel_rfl) h
end
end Q

