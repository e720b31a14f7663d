/- The functions of the finder as functions of Lean, and that the program computes them; printed by a program of mine. Conditions: none. -/
import Derived.Test.YtdpenljjnfmgiaaGreatFin45f
import Derived.Test.YtdpenljjnfmgiaaGreatKep45
open Tr Go Go.Proofs Tryz
open Go.IntKind renaming wrap ->Vb
open List renaming length ->Vc
open Option renaming bind ->C,isNone ->Vd
open Option renaming some ->J,none ->Ub
open Bool renaming true ->U,false ->Ud
open Decidable renaming decide ->R
namespace Q
noncomputable section
def F104(a:ZQ Zh Zk ZB Y94)(b:El Y91):Option (ZQ Zh Zk ZB Y94):=Tr.keepF a b
abbrev F104A:Pats:=(.cons (.fnd Zh Zk ZB Y94) (.cons (.pd Y91) .nil))
abbrev F104R:Pats:=.nil
def F104S:Tr.Spec:={args:=F104A,res:=F104R,fns:=[],α:=ZQ Zh Zk ZB Y94,f:=λx=>F104 x.1 x.2.1,unp:=λz=>((z,(),()),())}
theorem F104_ok:ZT Tryz.prog 131 F104S:=Tr.keep_ok
def F167(a:El Xi):Option (List (El K3)):=Tr.cloLegG a
def F167S:Tr.Spec:={args:=(.cons (.pd Xi) .nil),res:=(.cons (.own K3 Ud) .nil),fns:=[],α:=List (El K3),f:=λx=>F167 x.1,unp:=λz=>(((),()),(z,()))}
theorem F167_ok:ZT Tryz.prog 57 F167S:=Tr.cloLeg_ok
def F167E:Zm:=⟨57,F167S,F167_ok⟩
def F97:(El Xi)->(El K3)->Option (El Xi):=λc a=>C (F167 c) λb=>C (ZD (R (Vc b+Vc [a]<=ZI))) λ_=>J (b++[a])
def F97S:Tr.Spec:={args:=(.cons (.pd Xi) (.cons (.pd K3) .nil)),res:=(.cons (.pd Xi) .nil),fns:=[],α:=El Xi,f:=λx=>F97 x.1 x.2.1,unp:=λz=>(((),(),()),(z,()))}
theorem F97_ok:ZT Tryz.prog 132 F97S:=Ja (rws:=[]) (zxs:=[]) (nt:=10) (m:=[(57,[F167S])]) (fn:=f132) (hint:=.leaf) (pack:=λy=>y.2.1) We tab_ok ⟨⟨F167_ok,trivial⟩,trivial⟩ λx z h=>.trans (by kernel_rfl) h
def F178:(El Jp)->(El Y3)->Option (El Y3):=λa b=>C (run (λs0=>bif R (s0<(↑(Vc a):Int)) then C (idx a s0) λc=>bif R (b=c) then J (.inr (.inr s0)) else J (.inl (Vb .i64 (s0+(1:Int)))) else J (.inr (.inl ()))) (0:Int)) λd=>Sum.elim (λ_=>J (-1:Int)) (λe=>J e) d
def F178E:Zm:=Yu 225 f225 19 [] (hS (.seq (hS (.lp (en [pd 8 Y3] [0,1,7]) [(.exit 0,e0),(.ret,en [pd 4 Y3] [])] .leaf)) .leaf)) (.p Jp (.q Y3)) (.pd Y3) (u2 F178)
def F172:(El Jp)->(El Y3)->Option (El Y4):=λa b=>C (F178 a b) λc=>J (R ((0:Int)<=c))
def F172S:Tr.Spec:={args:=(.cons (.pd Jp) (.cons (.pd Y3) .nil)),res:=(.cons (.pd Y4) .nil),fns:=[],α:=El Y4,f:=λx=>F172 x.1 x.2.1,unp:=λz=>(((),(),()),(z,()))}
theorem F172_ok:ZT Tryz.prog 191 F172S:=Ja (rws:=[]) (zxs:=[]) (nt:=9) (m:=[(225,[F178E.S])]) (fn:=f191) (hint:=.leaf) (pack:=λy=>y.2.1) We tab_ok ⟨⟨F178E.ok,trivial⟩,trivial⟩ λx z h=>.trans (by kernel_rfl) h
def F169(a:El Jp):Option (List (El Y3)):=Tr.cloIntG a
def F169S:Tr.Spec:={args:=(.cons (.pd Jp) .nil),res:=(.cons (.own Y3 Ud) .nil),fns:=[],α:=List (El Y3),f:=λx=>F169 x.1,unp:=λz=>(((),()),(z,()))}
theorem F169_ok:ZT Tryz.prog 192 F169S:=Tr.cloInt_ok
def F105:(ZQ Zh Zk ZB Y94)->(El WA)->(El Xi)->(El Y3)->(El Y3)->Option (ZQ Zh Zk ZB Y94×El Y91):=λb a f d e=>C a.1 λ_=>C a.1 λg=>C (F22 g.2.2.2.2.2.2.1 a.2.2.2.2.1) λc=>bif !R (c.2=(0:Int)) then J (b,Ub) else C (F21 c.1) λh=>bif !h.2 then J (b,Ub) else C (idx b.1.1 d) λi=>C a.1 λ_=>C a.1 λj=>C a.1 λ_=>C a.1 λk=>J (b,J (d,e,Vb .i64 (e+i.2.2.2.1),Vb .i64 (j.2.2.2.1+(1:Int)),k.2.2.2.2.1,U,c.1,f,()))
def F105S:Tr.Spec:={args:=(.cons (.fnd Zh Zk ZB Y94) (.cons (.pd WA) (.cons (.pd Xi) (.cons (.pd Y3) (.cons (.pd Y3) .nil))))),res:=(.cons (.pd Y91) .nil),fns:=[],α:=ZQ Zh Zk ZB Y94×El Y91,f:=λx=>F105 x.1 x.2.1 x.2.2.1 x.2.2.2.1 x.2.2.2.2.1,unp:=λz=>((z.1,(),(),(),(),()),(z.2,()))}
theorem F105_ok:ZT Tryz.prog 193 F105S:=Ja (rws:=[94]) (zxs:=[]) (nt:=63) (m:=[(226,[F22E.S]),(227,[F21E.S])]) (fn:=f193) (hint:=.leaf) (pack:=λy=>(y.1.1,y.2.1)) We tab_ok ⟨⟨F22E.ok,trivial⟩,⟨F21E.ok,trivial⟩,trivial⟩ λx z h=>.trans (by kernel_rfl) h
abbrev F107A:Pats:=(.cons (.fnd Zh Zk ZB Y94) (.cons (.pd WA) .nil))
abbrev F107R:Pats:=.nil
def F108S(rec:(ZQ Zh Zk ZB Y94)->(El WA)->Option (ZQ Zh Zk ZB Y94)):Tr.Spec:={args:=F107A,res:=F107R,fns:=[],α:=ZQ Zh Zk ZB Y94,f:=λx=>rec x.1 x.2.1,unp:=λz=>((z,(),()),())}
def F99(rec:(ZQ Zh Zk ZB Y94)->(El WA)->Option (ZQ Zh Zk ZB Y94)):(ZQ Zh Zk ZB Y94)->(El Y91)->(El Y3)->(El Y3)->Option (ZQ Zh Zk ZB Y94):=λa b c d=>C b λ_=>C b λe=>bif R (e.2.2.2.1<a.2.1.2.2.2.2.1) then C (idx a.1.2.2.1 c) λf=>C (idx f.2.2.2.2.2.2.2.1 d) λg=>C (rec a (b,c,d,Ud,(g.2.2.1,(0:Int),(0:Int),(0:Int),()),([]:List (El Y3)),())) λh=>J h else J a
abbrev F98A:Pats:=(.cons (.fnd Zh Zk ZB Y94) (.cons (.pd Y91) (.cons (.pd Y3) (.cons (.pd Y3) .nil))))
abbrev F98R:Pats:=.nil
def F99S(rec:(ZQ Zh Zk ZB Y94)->(El WA)->Option (ZQ Zh Zk ZB Y94)):Tr.Spec:={args:=F98A,res:=F98R,fns:=[],α:=ZQ Zh Zk ZB Y94,f:=λx=>F99 rec x.1 x.2.1 x.2.2.1 x.2.2.2.1,unp:=λz=>((z,(),(),(),()),())}
def F98M(rec:(ZQ Zh Zk ZB Y94)->(El WA)->Option (ZQ Zh Zk ZB Y94)):List (Nat×List Tr.Spec):=[(129,[F108S rec])]
def F98H:K7:=.leaf
def F98V(rec:(ZQ Zh Zk ZB Y94)->(El WA)->Option (ZQ Zh Zk ZB Y94))(a:ZQ Zh Zk ZB Y94)(b:El Y91)(c:El Y3)(d:El Y3):Option (ZQ Zh Zk ZB Y94):=XV (mkE tyTab mapTab pkTab [212] [] (F98M rec) 38 bdTab) (K2 f79) f79.results F98H F98A F98R (λy=>y.1.1) (a,b,c,d,())
theorem F98_eq(rec:(ZQ Zh Zk ZB Y94)->(El WA)->Option (ZQ Zh Zk ZB Y94))(a:ZQ Zh Zk ZB Y94)(b:El Y91)(c:El Y3)(d:El Y3):F98V rec a b c d=F99 rec a b c d:=by kernel_rfl
theorem F99_ok(rec:(ZQ Zh Zk ZB Y94)->(El WA)->Option (ZQ Zh Zk ZB Y94))(a:ZT Tryz.prog 129 (F108S rec)):ZT Tryz.prog 79 (F99S rec):=Ja (m:=F98M rec) (fn:=f79) (hint:=F98H) (pack:=λy=>y.1.1) We tab_ok ⟨⟨a,trivial⟩,trivial⟩ λx z h=>(F98_eq rec x.1 x.2.1 x.2.2.1 x.2.2.2.1).trans h
def F100(rec:(ZQ Zh Zk ZB Y94)->(El WA)->Option (ZQ Zh Zk ZB Y94)):(ZQ Zh Zk ZB Y94)->(El WA)->(El Y3)->(El Xi)->(El Y91)->Option (ZQ Zh Zk ZB Y94):=λe d j n k=>C (idx e.1.2.2.1 d.2.1) λo=>C (idx o.2.2.2.2.2.2.2.1 j) λp=>C (idx e.2.2.1 d.2.1) λl=>C (run (λb=>bif R (b.2<(↑(Vc l):Int)) then C (idx l b.2) λq=>C (idx b.1.1.2.2.2.1 q) λc=>C (idx b.1.1.2.2.1 c.2.2.1) λr=>C (idx r.2.2.2.2.2.2.2.1 c.2.2.2.1) λm=>C (bif !R (c.2.1=j) then J U else J (R (m.2.2.1<p.2.1))) λs=>bif s then J (.inl (b.1,Vb .i64 (b.2+(1:Int)))) else bif c.2.2.2.2.1 then C d.1 λ_=>C d.1 λa=>C (rec b.1 (J (a.1,a.2.1,a.2.2.1,a.2.2.2.1,a.2.2.2.2.1,a.2.2.2.2.2.1,a.2.2.2.2.2.2.1,n,a.2.2.2.2.2.2.2.2),c.2.2.1,c.2.2.2.1,U,d.2.2.2.2.1,d.2.2.2.2.2.1,())) λf=>J (.inl (f,Vb .i64 (b.2+(1:Int)))) else C (bif !Vd k then J m.2.2.2.1 else J Ud) λg=>bif g then C ((F99 rec) b.1 k c.2.2.1 c.2.2.2.1) λh=>J (.inl (h,Vb .i64 (b.2+(1:Int)))) else J (.inl (b.1,Vb .i64 (b.2+(1:Int)))) else J (.inr b.1)) (e,(0:Int))) λi=>J i
abbrev F_profile_finder_followA:Pats:=(.cons (.fnd Zh Zk ZB Y94) (.cons (.pd WA) (.cons (.pd Y3) (.cons (.pd Xi) (.cons (.pd Y91) .nil)))))
abbrev F_profile_finder_followR:Pats:=.nil
def F100S(rec:(ZQ Zh Zk ZB Y94)->(El WA)->Option (ZQ Zh Zk ZB Y94)):Tr.Spec:={args:=F_profile_finder_followA,res:=F_profile_finder_followR,fns:=[],α:=ZQ Zh Zk ZB Y94,f:=λx=>F100 rec x.1 x.2.1 x.2.2.1 x.2.2.2.1 x.2.2.2.2.1,unp:=λz=>((z,(),(),(),(),()),())}
def F102(rec:(ZQ Zh Zk ZB Y94)->(El WA)->Option (ZQ Zh Zk ZB Y94)):List (Nat×List Tr.Spec):=[(79,[F99S rec]),(129,[F108S rec])]
def F101:K7:=(hS (hS (hS (.lp (en [(0,.fnd Zh Zk ZB Y94),pd 39 Y3] [2,3,4,6,10,37,38]) [(.exit 0,en [(0,.fnd Zh Zk ZB Y94)] [])] (hS (hS (.seq (hS (hS (hS (.seq (.seq (.reg [(74,Y4)]) .leaf) (hS (.cnd Ub .leaf (.seq (.reg [(99,Y4)]) .leaf))))))) .leaf)))))))
def F103(rec:(ZQ Zh Zk ZB Y94)->(El WA)->Option (ZQ Zh Zk ZB Y94))(a:ZQ Zh Zk ZB Y94)(b:El WA)(c:El Y3)(d:El Xi)(e:El Y91):Option (ZQ Zh Zk ZB Y94):=XV (mkE tyTab mapTab pkTab [212] [] (F102 rec) 108 bdTab) (K2 f194) f194.results F101 F_profile_finder_followA F_profile_finder_followR (λy=>y.1.1) (a,b,c,d,e,())
theorem F_profile_finder_follow_eq(rec:(ZQ Zh Zk ZB Y94)->(El WA)->Option (ZQ Zh Zk ZB Y94))(a:ZQ Zh Zk ZB Y94)(b:El WA)(c:El Y3)(d:El Xi)(e:El Y91):F103 rec a b c d e=F100 rec a b c d e:=by kernel_rfl
theorem F100_ok(rec:(ZQ Zh Zk ZB Y94)->(El WA)->Option (ZQ Zh Zk ZB Y94))(a:ZT Tryz.prog 129 (F108S rec)):ZT Tryz.prog 194 (F100S rec):=Ja (m:=F102 rec) (fn:=f194) (hint:=F101) (pack:=λy=>y.1.1) We tab_ok ⟨⟨(F99_ok rec a),trivial⟩,⟨a,trivial⟩,trivial⟩ λx z h=>(F_profile_finder_follow_eq rec x.1 x.2.1 x.2.2.1 x.2.2.2.1 x.2.2.2.2.1).trans h
theorem Ztd {P:Program} {f:FuncId} {S:Tr.Spec} {fn:Func} (d:∀x,S.f x=none) (b:S.args.wf=true) (g:P.funcs[f]? =some fn) (e:fn.body.isNone=false) (a:(fn.name== "runtime.NumGoroutine")=false) (h:S.kp=[]):ZT P f S where
 wf:=b
 fn:=⟨fn,g,e,a⟩
 run:=λ_ _ _ _ x z _ _ _ _ _ c=>by rw[d x]at c;cases c
 kept:=.inl h
def F108(rec:(ZQ Zh Zk ZB Y94)->(El WA)->Option (ZQ Zh Zk ZB Y94)):(ZQ Zh Zk ZB Y94)->(El WA)->Option (ZQ Zh Zk ZB Y94):=λf c=>C (idx f.1.2.2.1 c.2.1) λg=>C (bif g.2.2.2.2.2.2.1 then J U else C (F172 c.2.2.2.2.2.1 c.2.1) λr=>J r) λs=>bif s then J f else C (F169 c.2.2.2.2.2.1) λq=>C (ZD (R (Vc q+Vc [c.2.1]<=ZI))) λ_=>C (idx g.2.2.2.2.2.2.2.1 c.2.2.1) λp=>C (idx f.1.2.1 g.2.2.2.2.1) λt=>C (GE .i64 (1:Int) t.2.1) λu=>C (idx f.1.1 p.1) λv=>C (GE .i64 (1:Int) v.2.1) λw=>C (run (λa=>bif R (a.2.2<(↑(Vc g.2.2.2.2.2.2.2.1):Int)) then C (idx g.2.2.2.2.2.2.2.1 a.2.2) λb=>C (idx a.1.1.1 b.1) λj=>C (GE .i64 (1:Int) j.2.1) λe=>C a.2.1.1 λ_=>C a.2.1.1 λk=>C (F97 k.2.2.2.2.2.2.2.1 (U,a.2.1.2.1,a.2.1.2.2.1,a.2.2,p.1,b.1,p.2.2.1,b.2.1,a.2.1.2.2.2.1,())) λh=>C (bif b.2.2.2.2.1 then C (F105 a.1 (a.2.1.1,a.2.1.2.1,a.2.1.2.2.1,a.2.1.2.2.2.1,(a.2.1.2.2.2.2.1.1,b.2.1,Wa .i64 a.2.1.2.2.2.2.1.2.2.1 e,a.2.1.2.2.2.2.1.2.2.2),a.2.1.2.2.2.2.2) h b.1 b.2.1) λd=>C (bif !Vd d.2 then C (F104 d.1 d.2) λl=>J l else J d.1) λm=>J (m,d.2) else J (a.1,Ub)) λi=>C ((F100 rec) i.1 (a.2.1.1,a.2.1.2.1,a.2.1.2.2.1,a.2.1.2.2.2.1,(a.2.1.2.2.2.2.1.1,b.2.1,Wa .i64 a.2.1.2.2.2.2.1.2.2.1 e,a.2.1.2.2.2.2.1.2.2.2),a.2.1.2.2.2.2.2) a.2.2 h i.2) λn=>J (.inl (n,(a.2.1.1,a.2.1.2.1,a.2.1.2.2.1,a.2.1.2.2.2.1,(a.2.1.2.2.2.2.1.1,b.2.1,Wa .i64 a.2.1.2.2.2.2.1.2.2.1 e,a.2.1.2.2.2.2.1.2.2.2),a.2.1.2.2.2.2.2),Vb .i64 (a.2.2+(1:Int)))) else J (.inr a.1)) (f,(c.1,c.2.1,c.2.2.1,c.2.2.2.1,(c.2.2.2.2.1.1,c.2.2.2.2.1.2.1,Wa .i64 c.2.2.2.2.1.2.2.1 w,Wa .i64 c.2.2.2.2.1.2.2.2.1 u,c.2.2.2.2.1.2.2.2.2),q++[c.2.1],()),Vb .i64 (c.2.2.1+(1:Int)))) λo=>J o
def F107M(rec:(ZQ Zh Zk ZB Y94)->(El WA)->Option (ZQ Zh Zk ZB Y94)):List (Nat×List Tr.Spec):=[(131,[F104S]),(132,[F97S]),(191,[F172S]),(192,[F169S]),(193,[F105S]),(194,[F100S rec])]
def F107H:K7:=(hS (hS (.seq (.seq (.reg [(27,Y4)]) .leaf) (hS (hS (hS (hS (hS (.lp (en [(0,.fnd Zh Zk ZB Y94),(3,.var WA (.pd WA)),pd 6 Y3] [4,5]) [(.exit 0,en [(0,.fnd Zh Zk ZB Y94)] [])] (hS (.seq (hS (hS (hS (hS (hS (.seq (hS (.cnd (J ((en [] [3,4,5,6,8]),[(.normal,en [(0,.fnd Zh Zk ZB Y94),pd 9 Y91] [3,4,5,6,8])])) (hS (hS (.cnd (J ((en [] [3,4,5,6,8,9]),[(.normal,en [(0,.fnd Zh Zk ZB Y94)] [3,4,5,6,8,9])])) .leaf .leaf))) .leaf)) .leaf)))))) .leaf)))))))))))
def F107V(rec:(ZQ Zh Zk ZB Y94)->(El WA)->Option (ZQ Zh Zk ZB Y94))(a:ZQ Zh Zk ZB Y94)(b:El WA):Option (ZQ Zh Zk ZB Y94):=XV (mkE tyTab mapTab pkTab [] [] (F107M rec) 155 bdTab) (K2 f129) f129.results F107H F107A F107R (λy=>y.1.1) (a,b,())
theorem F107_eq(rec:(ZQ Zh Zk ZB Y94)->(El WA)->Option (ZQ Zh Zk ZB Y94))(a:ZQ Zh Zk ZB Y94)(b:El WA):F107V rec a b=F108 rec a b:=by kernel_rfl
theorem F108_ok(rec:(ZQ Zh Zk ZB Y94)->(El WA)->Option (ZQ Zh Zk ZB Y94))(a:ZT Tryz.prog 129 (F108S rec)):ZT Tryz.prog 129 (F108S (F108 rec)):=Ja (m:=F107M rec) (fn:=f129) (hint:=F107H) (pack:=λy=>y.1.1) We tab_ok ⟨⟨F104_ok,trivial⟩,⟨F97_ok,trivial⟩,⟨F172_ok,trivial⟩,⟨F169_ok,trivial⟩,⟨F105_ok,trivial⟩,⟨(F100_ok rec a),trivial⟩,trivial⟩ λx z h=>(F107_eq rec x.1 x.2.1).trans h
def F109:Nat->(ZQ Zh Zk ZB Y94)->(El WA)->Option (ZQ Zh Zk ZB Y94)
 |0=>λ_ _=>Ub
 |k+1=>F108 (F109 k)
theorem F109_ok:∀k,ZT Tryz.prog 129 (F108S (F109 k))
 |0=>Ztd (fn:=f129) (λ_=>rfl) (by kernel_rfl) (by kernel_rfl) (by kernel_rfl) (by kernel_rfl) rfl
 |k+1=>F108_ok _ (F109_ok k)
def F107:(ZQ Zh Zk ZB Y94)->(El WA)->Option (ZQ Zh Zk ZB Y94):=F109 100
def F107S:Tr.Spec:=F108S F107
theorem F107_ok:ZT Tryz.prog 129 F107S:=F109_ok 100
def F98:(ZQ Zh Zk ZB Y94)->(El Y91)->(El Y3)->(El Y3)->Option (ZQ Zh Zk ZB Y94):=F99 F107
def F98S:Tr.Spec:=F99S F107
theorem F98_ok:ZT Tryz.prog 79 F98S:=F99_ok F107 F107_ok
def F106:(ZQ Zh Zk ZB Y94)->(El Y91)->Option (ZQ Zh Zk ZB Y94):=λg a=>C (run (λs0=>bif R (s0.2<(↑(Vc g.1.2.2.1):Int)) then C (idx g.1.2.2.1 s0.2) λw=>C (run (λf=>bif R (f.2<(↑(Vc w.2.2.2.2.2.2.2.1):Int)) then C (idx w.2.2.2.2.2.2.2.1 f.2) λp=>C (C a λ_=>C a λx=>bif R (p.1=x.1) then bif p.2.2.2.1 then C a λ_=>C a λy=>J (R (y.2.2.1<=p.2.2.1)) else J Ud else J Ud) λz=>bif z then C (F98 f.1 a s0.2 f.2) λA=>J (.inl (A,Vb .i64 (f.2+(1:Int)))) else J (.inl (f.1,Vb .i64 (f.2+(1:Int)))) else J (.inr f.1)) (s0.1,(0:Int))) λh=>J (.inl (h,Vb .i64 (s0.2+(1:Int)))) else J (.inr s0.1)) (g,(0:Int))) λd=>C a λ_=>C a λi=>bif !i.2.2.2.2.2.1 then J d else C (run (λc=>bif R (c.2<(↑(Vc d.1.2.2.2.2.1):Int)) then C (idx d.1.2.2.2.2.1 c.2) λb=>C a λ_=>C a λe=>C (C a λ_=>C a λj=>bif !R (b.1=j.1) then J U else C a λ_=>C a λk=>bif R (c.1.2.1.2.2.2.2.2.1<Vb .i64 (k.2.2.2.2.1+b.2.2.1)) then J U else J (R ((3155932800:Int)<Vb .i64 (e.2.1+b.2.2.1)))) λl=>bif l then J (.inl (c.1,Vb .i64 (c.2+(1:Int)))) else C a λ_=>C a λm=>C a λ_=>C a λn=>C a λ_=>C a λo=>C a λ_=>C a λq=>C a λ_=>C a λr=>C a λ_=>C a λs=>C (F97 q.2.2.2.2.2.2.2.1 (Ud,(0:Int),(0:Int),(0:Int),r.1,b.2.1,s.2.1,Vb .i64 (e.2.1+b.2.2.1),Ud,())) λt=>C (F104 c.1 (J (b.2.1,Vb .i64 (e.2.1+b.2.2.1),Vb .i64 (e.2.1+b.2.2.1),m.2.2.2.1,Vb .i64 (n.2.2.2.2.1+b.2.2.1),Ud,o.2.2.2.2.2.2.1,t,()))) λu=>J (.inl (u,Vb .i64 (c.2+(1:Int)))) else J (.inr c.1)) (d,(0:Int))) λv=>J v
def F106S:Tr.Spec:={args:=(.cons (.fnd Zh Zk ZB Y94) (.cons (.pd Y91) .nil)),res:=.nil,fns:=[],α:=ZQ Zh Zk ZB Y94,f:=λx=>F106 x.1 x.2.1,unp:=λz=>((z,(),()),())}
theorem F106_ok:ZT Tryz.prog 81 F106S:=Ja (rws:=[94]) (zxs:=[]) (nt:=146) (m:=[(79,[F98S]),(131,[F104S]),(132,[F97S])]) (fn:=f81) (hint:=(.seq (hS (.lp (en [(0,.fnd Zh Zk ZB Y94),pd 17 Y3] [1,15,16]) [(.exit 0,en [(0,.fnd Zh Zk ZB Y94)] [1])] (hS (hS (.seq (hS (hS (.lp (en [(0,.fnd Zh Zk ZB Y94),pd 25 Y3] [1,4,15,16,17,23,24]) [(.exit 2,en [(0,.fnd Zh Zk ZB Y94)] [1,15,16,17])] (hS (hS (.seq (hS (.seq (.reg [(49,Y4)]) .leaf)) .leaf)))))) .leaf))))) (hS (hS (.lp (en [(0,.fnd Zh Zk ZB Y94),pd 68 Y3] [1,66,67]) [(.exit 4,en [(0,.fnd Zh Zk ZB Y94)] [])] (hS (hS (.seq (hS (hS (.seq (.seq (.reg [(104,Y4)]) .leaf) .leaf))) .leaf)))))))) (pack:=λy=>y.1.1) We tab_ok ⟨⟨F98_ok,trivial⟩,⟨F104_ok,trivial⟩,⟨F97_ok,trivial⟩,trivial⟩ λx z h=>.trans (by kernel_rfl) h
end
end Q

