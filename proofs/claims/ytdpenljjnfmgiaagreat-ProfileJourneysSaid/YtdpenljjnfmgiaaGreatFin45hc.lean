/- More functions of the program as functions of Lean, and that the program computes them; printed by a program of mine. Conditions: none. -/
import Derived.Test.YtdpenljjnfmgiaaGreatFin45hb
open Tr Go Go.Proofs Tryz
open Int renaming toNat ->Ve
open Go.IntKind renaming wrap ->Vb
open List renaming length ->U,replicate ->Vd
open Option renaming bind ->Va
open Sum renaming elim ->Vf
open Option renaming some ->Ua
open Bool renaming true ->Uc,false ->Ud
open Decidable renaming decide ->R
namespace Q
noncomputable section
theorem F142_ok:ZS Tryz.prog 159 F142S:=WZ (m:=F142M) (fn:=f159) (hint:=F142H) (pack:=fun y=>y.2.1) K9 tab_okH trivial fun x z h=>(F142_eq x.1).trans h
def F142E:Zn:=⟨159,F142S,F142_ok⟩
def F143:(El Y3)->(El Y3)->(El Y3)->Option (El Y4):=fun a b c=>
 bif R (b<=a) then Ua Uc
 else Ua (R (Vb .u64 (Vb .u64 b - Vb .u64 a)<=Vb .u64 c))
def F143E:Zn:=ZZ 160 f160 18 [] .leaf (.p Y3 (.p Y3 (.q Y3))) (.pd Y4) (u3 F143)
def F135:(El JX)->(El Wl)->(El Y3)->(El Y3)->Option (El Y4):=fun a b c d=>
 Va
 (run
 (fun s0=>
 bif R (s0.2.2<=d) then
 Va (idx b s0.2.2) fun f=>
 Va (idx b s0.2.2) fun g=>
 Ua (.inl (K5 .i64 s0.1 f.2.2.1,K5 .i64 s0.2.1 g.2.2.2.1,Vb .i64 (s0.2.2+(1:Int))))
 else Ua (.inr (s0.1,s0.2.1)))
 ((0:Int),(0:Int),c))
 fun e=>
 Va
 (bif R (Vb .i64 (Vb .i64 (d - c)+(1:Int))<=a.2.2.1) then
 Va (F142 e.1) fun h=>
 bif R (h<=a.2.2.2.1) then
 Va (idx b c) fun i=>
 Va (idx b d) fun j=>
 Va (F143 i.1 j.1 a.2.2.2.2.1) fun k=>
 bif k then Ua (R (Tr.qandNot .i64 e.2 a.2.2.2.2.2.1=(0:Int))) else Ua Ud
 else Ua Ud
 else Ua Ud)
 fun l=>Ua l
def F135E:Zn:=ZZ 101 f101 68 [F142E,F143E] (hS (hS (.seq (hS (.lp (en [pd 9 Y3,pd 10 Y3,pd 11 Y3] [1,2,3,4]) [(.exit 0,en [pd 9 Y3,pd 10 Y3] [1,2,3,4])] .leaf)) (.seq (.reg [(8,Y4)]) .leaf)))) (.p JX (.p Wl (.p Y3 (.q Y3)))) (.pd Y4) (u4 F135)
def F140:(El KL)->(El JX)->(El Wl)->(El Y3)->Option (El Y3):=fun b c d a=>
 Va
 (bif R ((0:Int)<a) then
 Va (idx d (Vb .i64 (a - (1:Int)))) fun e=>
 Va (idx d a) fun f=>Va (F143 e.2.1 f.1 b.2.2.1) fun g=>Ua g
 else Ua Ud)
 fun h=>bif h then Ua (Tr.imax (0:Int) (Vb .i64 (c.2.1 - b.2.1))) else Ua c.2.1
def F140E:Zn:=ZZ 102 f102 35 [F143E] (hS (.seq (.seq (.reg [(26,Y4)]) .leaf) .leaf)) (.p KL (.p JX (.p Wl (.q Y3)))) (.pd Y3) (u4 F140)
def F137:(El KL)->(El Wl)->Option (El Y3×El Xb×El Y4):=fun j e=>
 Va
 (Zz
 (decide
 ((0:El (Tr.Ty.int .i64))<=Vb .i64 ((↑(U e):Int)+(1:Int))/\
 Vb .i64 ((↑(U e):Int)+(1:Int))<=Vb .i64 ((↑(U e):Int)+(1:Int))/\
 Vb .i64 ((↑(U e):Int)+(1:Int))<=(↑ZD:El (Tr.Ty.int .i64)))))
 fun _=>
 Va (Zs (↑(U e):Int) (U (Vd (Ve (Vb .i64 ((↑(U e):Int)+(1:Int)))) ((Ud,(0:Int),([]:List (El HC)),()))))) fun G=>
 Va (Vd (Ve (Vb .i64 ((↑(U e):Int)+(1:Int)))) ((Ud,(0:Int),([]:List (El HC)),())))[G]? fun H=>
 Va
 (run
 (fun c=>
 bif R ((0:Int)<=c.2) then
 Va
 (run
 (fun b=>
 bif R (b.2<(↑(U e):Int)) then
 Va (Zs (Vb .i64 (b.2+(1:Int))) (U b.1)) fun I=>
 Va b.1[I]? fun J=>
 bif !J.1 then Ua (.inl (b.1,Vb .i64 (b.2+(1:Int))))
 else
 Va
 (run
 (fun a=>
 bif R (a.2<(↑(U j.1):Int)) then
 Va (idx j.1 a.2) fun K=>
 Va (F135 K e c.2 b.2) fun L=>
 bif !L then Ua (.inl (a.1,Vb .i64 (a.2+(1:Int))))
 else
 Va (idx j.1 a.2) fun k=>
 Va (F140 j k e c.2) fun f=>
 Va (Zs (Vb .i64 (b.2+(1:Int))) (U a.1)) fun l=>
 Va a.1[l]? fun g=>
 Va
 (Va (Zs c.2 (U a.1)) fun m=>
 Va a.1[m]? fun n=>
 bif n.1 then
 Va (Zs c.2 (U a.1)) fun o=>
 Va a.1[o]? fun p=>
 bif R (p.2.1<Vb .i64 (f+g.2.1)) then Ua Uc
 else
 Va (Zs c.2 (U a.1)) fun q=>
 Va a.1[q]? fun r=>
 bif R (Vb .i64 (f+g.2.1)=r.2.1) then
 Va (Zs (Vb .i64 (b.2+(1:Int))) (U a.1)) fun s=>
 Va a.1[s]? fun t=>
 Va (Zs c.2 (U a.1)) fun u=>
 Va a.1[u]? fun v=>
 Ua
 (decide
 ((↑(U v.2.2.1):Int)<=
 Vb .i64 ((1:Int)+(↑(U t.2.2.1):Int))))
 else Ua Ud
 else Ua Ud)
 fun w=>
 bif w then Ua (.inl (a.1,Vb .i64 (a.2+(1:Int))))
 else
 Va (Zs (Vb .i64 (b.2+(1:Int))) (U a.1)) fun x=>
 Va a.1[x]? fun h=>
 Va (Zz (R (U [(a.2,c.2,b.2,f,())]+U h.2.2.1<=ZD)))
 fun _=>
 Va (Zs c.2 (U a.1)) fun i=>
 Va a.1[i]? fun _=>
 Ua
 (.inl
 (List.set a.1 i
 (Uc,Vb .i64 (f+g.2.1),[(a.2,c.2,b.2,f,())]++h.2.2.1,()),
 Vb .i64 (a.2+(1:Int))))
 else Ua (.inr a.1))
 (b.1,(0:Int)))
 fun y=>Ua (.inl (y,Vb .i64 (b.2+(1:Int))))
 else Ua (.inr b.1))
 (c.1,c.2))
 fun z=>Ua (.inl (z,Vb .i64 (c.2 - (1:Int))))
 else Ua (.inr c.1))
 (List.set (Vd (Ve (Vb .i64 ((↑(U e):Int)+(1:Int)))) ((Ud,(0:Int),([]:List (El HC)),()))) G (Uc,H.2),
 Vb .i64 ((↑(U e):Int) - (1:Int))))
 fun d=>
 Va (Zs (0:Int) (U d)) fun A=>
 Va d[A]? fun B=>
 Va (Zs (0:Int) (U d)) fun C=>
 Va d[C]? fun D=>Va (Zs (0:Int) (U d)) fun E=>Va d[E]? fun F=>Ua (B.2.1,D.2.2.1,F.1)
def F137E:Zn:=Wf 53 f53 150 [F135E,F140E] (hS (hS (hS (.seq (hS (.lp (en [(7,.own Rs Ud),pd 8 Y3] [1,2]) [(.exit 0,en [(7,.own Rs Ud)] [])] (hS (.seq (hS (.lp (en [(7,.own Rs Ud),pd 9 Y3] [1,2,8]) [(.exit 2,en [(7,.own Rs Ud)] [1,2,8])] (hS (.seq (hS (hS (.lp (en [(7,.own Rs Ud),pd 10 Y3] [1,2,8,9]) [(.exit 4,en [(7,.own Rs Ud)] [1,2,8,9])] (hS (.seq (hS (hS (hS (.seq (.seq (.reg [(117,Y4)]) .leaf) .leaf)))) .leaf))))) .leaf)))) .leaf)))) .leaf)))) (.p KL (.q Wl)) (.p Y3 (.p Xb (.q Y4))) (u2 F137) (fun z=>(((),(),()),(z.1,z.2.1,z.2.2,()))) (fun y=>(y.2.1,y.2.2.1,y.2.2.2.1)) (rws:=[177])
def F133:(El KL)->(El Y3)->Option (El Y3):=fun a b=>bif R ((0:Int)<a.2.2.2.1) then Ua (Tr.imin a.2.2.2.1 b) else Ua b
def F133E:Zn:=ZZ 54 f54 13 [] .leaf (.p KL (.q Y3)) (.pd Y3) (u2 F133)
def F141:(El Jk)->Option (El Y3):=fun b=>
 Va
 (run
 (fun s0=>
 bif R (s0.2<(↑(U b.1):Int)) then
 Va (idx b.1 s0.2) fun a=>
 Va
 (bif !a.1 then
 bif R ((0:Int)<=a.2.2.2.2.2.2.1) then
 bif R (a.2.2.2.2.2.2.1<=a.2.2.2.2.2.2.2.1) then
 Ua (R (Vb .i64 (a.2.2.2.2.2.2.2.1 - a.2.2.2.2.2.2.1)<=(14400:Int)))
 else Ua Ud
 else Ua Ud
 else Ua Ud)
 fun c=>
 bif c then
 Ua
 (.inl
 (Vb .i64 (Vb .i64 (s0.1+a.2.2.2.2.2.2.2.1) - a.2.2.2.2.2.2.1),
 Vb .i64 (s0.2+(1:Int))))
 else Ua (.inl (s0.1,Vb .i64 (s0.2+(1:Int))))
 else Ua (.inr s0.1))
 ((0:Int),(0:Int)))
 fun d=>Ua d
def F141E:Zn:=ZZ 55 f55 49 [] (hS (hS (.seq (hS (.lp (en [pd 3 Y3,pd 4 Y3] [1]) [(.exit 0,en [pd 3 Y3] [])] (hS (.seq (hS (.seq (.reg [(40,Y4)]) .leaf)) .leaf)))) .leaf))) (.q Jk) (.pd Y3) (u1 F141)
def F134:(El Zh)->(El Zk)->(El Jk)->Option (El JY×El Xb×El ZI):=fun c e a=>
 Va (F138 c a) fun b=>
 bif !R (b.2=(0:Int)) then Ua (((0:Int),(0:Int),(0:Int),(0:Int),(0:Int),()),[],b.2)
 else
 bif R ((8:Int)<(↑(U b.1):Int)) then Ua (((0:Int),(0:Int),(0:Int),(0:Int),(0:Int),()),[],(33:Int))
 else
 Va (F137 c.2.2.2.2.2.1 b.1) fun d=>
 bif !d.2.2 then Ua (((0:Int),(0:Int),(0:Int),(0:Int),(0:Int),()),[],(34:Int))
 else
 Va (F133 c.2.2.2.2.2.1 d.1) fun f=>
 Va (F141 a) fun g=>
 Va
 (bif R ((0:Int)<(↑(U a.1):Int)) then
 Va (idx a.1 (0:Int)) fun h=>
 Va (idx a.1 (Vb .i64 ((↑(U a.1):Int) - (1:Int)))) fun i=>
 Ua (h.2.2.2.2.2.2.1,i.2.2.2.2.2.2.2.1,(↑(U b.1):Int),f,g,())
 else Ua (e.2.2.1,e.2.2.1,(↑(U b.1):Int),f,g,()))
 fun j=>Ua (j,d.2.1,(0:Int))
def F134E:Zn:=Wf 20 f20 75 [F138E,F137E,F133E,F141E] (hS (hS (hS (hS (hS (hS (hS (.seq (hS (.cnd (Ua ((en [] [6,12]),[(.normal,en [(14,.var JY (.pd JY))] [6,12])])) .leaf .leaf)) .leaf)))))))) (.p Zh (.p Zk (.q Jk))) (.p JY (.p Xb (.q ZI))) (u3 F134) (fun z=>(((),(),(),()),(z.1,z.2.1,z.2.2,()))) (fun y=>(y.2.1,y.2.2.1,y.2.2.2.1))
def F151:(El Zh)->(El Zk)->(El Jk)->Option (El ZI):=fun e c b=>
 Va (idx b.1 (Vb .i64 ((↑(U b.1):Int) - (1:Int)))) fun d=>
 bif !R (d.2.2.2.2.2.1=c.2.1) then Ua (24:Int)
 else
 Va (bif c.2.2.2.1 then Ua (R (c.2.2.1<d.2.2.2.2.2.2.2.1)) else Ua Ud) fun f=>
 bif f then Ua (10:Int)
 else
 Va
 (run
 (fun a=>
 bif R (a.2<(↑(U b.1):Int)) then
 Va
 (Va (idx b.1 a.2) fun g=>
 bif g.1 then Va (idx b.1 a.2) fun h=>Ua !h.2.2.2.2.2.2.2.2.1 else Ua Ud)
 fun i=>
 bif i then Ua (.inl (Vb .i64 (a.1+(1:Int)),Vb .i64 (a.2+(1:Int))))
 else Ua (.inl (a.1,Vb .i64 (a.2+(1:Int))))
 else Ua (.inr a.1))
 ((0:Int),(0:Int)))
 fun j=>
 bif R (c.2.2.2.2.1<j) then Ua (33:Int)
 else
 Va (F141 b) fun k=>
 bif R (c.2.2.2.2.2.1<k) then Ua (32:Int) else Va (F134 e c b) fun l=>Ua l.2.2
def F151E:Zn:=ZZ 98 f98 77 [F134E,F141E] (hS (hS (hS (.seq (.seq (.reg [(34,Y4)]) .leaf) (hS (.seq (hS (.lp (en [pd 8 Y3,pd 9 Y3] [3,4,5]) [(.exit 0,en [pd 8 Y3] [3,4,5])] (hS (.seq (.seq (.reg [(56,Y4)]) .leaf) .leaf)))) .leaf)))))) (.p Zh (.p Zk (.q Jk))) (.pd ZI) (u3 F151) (rws:=[48])
def F145:(El Zh)->(El Zk)->(El Jk)->Option (El Y3×El ZI):=fun d a b=>
 Va (F146 d a) fun e=>
 bif !R (e=(0:Int)) then Ua ((0:Int),e)
 else
 bif R ((↑(U b.1):Int)=(0:Int)) then bif !R (a.1=a.2.1) then Ua ((0:Int),(24:Int)) else Ua ((0:Int),(0:Int))
 else
 Va
 (run
 (fun c=>
 bif R (c<(↑(U b.1):Int)) then
 Va (F150 d a b c) fun f=>
 bif !R (f=(0:Int)) then Ua (.inr (.inr (c,f))) else Ua (.inl (Vb .i64 (c+(1:Int))))
 else Ua (.inr (.inl ())))
 (0:Int))
 fun i=>
 Vf
 (fun _=>
 Va (F151 d a b) fun g=>
 bif !R (g=(0:Int)) then Ua (Vb .i64 ((↑(U b.1):Int) - (1:Int)),g) else Ua ((0:Int),(0:Int)))
 (fun h=>Ua (h.1,h.2)) i
def F145E:Zn:=Wf 51 f51 52 [F146E,F150E,F151E] (hS (hS (hS (hS (.seq (hS (.lp (en [pd 9 Y3] [3,4,5]) [(.exit 0,en [] [3,4,5]),(.ret,en [pd 6 Y3,pd 7 ZI] [])] .leaf)) .leaf))))) (.p Zh (.p Zk (.q Jk))) (.p Y3 (.q ZI)) (u3 F145) (fun z=>(((),(),(),()),(z.1,z.2,()))) (fun y=>(y.2.1,y.2.2.1)) (rws:=[48])
def F147:(El Zh)->(El Zk)->(El Jk)->Option (El Y4):=fun a b c=>Va (F145 a b c) fun d=>Ua (R (d.2=(0:Int)))
def F147E:Zn:=ZZ 19 f19 18 [F145E] .leaf (.p Zh (.p Zk (.q Jk))) (.pd Y4) (u3 F147) (rws:=[48])
def F139:(El Xb)->(El Xb)->Option (El Y4):=fun c d=>
 bif !R ((↑(U c):Int)=(↑(U d):Int)) then Ua Ud
 else
 Va
 (run
 (fun s0=>
 bif R (s0<(↑(U c):Int)) then
 Va (idx c s0) fun a=>
 Va (idx d s0) fun b=>
 bif
 !(R (a.1=b.1) &&
 (R (a.2.1=b.2.1) && (R (a.2.2.1=b.2.2.1) &&R (a.2.2.2.1=b.2.2.2.1)))) then
 Ua (.inr (.inr Ud))
 else Ua (.inl (Vb .i64 (s0+(1:Int))))
 else Ua (.inr (.inl ())))
 (0:Int))
 fun e=>Vf (fun _=>Ua Uc) (fun f=>Ua f) e
def F139E:Zn:=ZZ 21 f21 26 [] (hS (hS (.seq (hS (.lp (en [pd 5 Y3] [0,1]) [(.exit 0,e0),(.ret,en [pd 4 Y4] [])] .leaf)) .leaf))) (.p Xb (.q Xb)) (.pd Y4) (u2 F139)
def F58:(El Zh)->(El Zk)->(El Y3)->Option (El Y4):=fun f e g=>
 Va (Va (F63 f e) fun o=>bif !o then Ua Uc else Va (F62 f e g) fun p=>Ua !R (p=(0:Int)))
 fun q=>
 bif q then Va F61 fun r=>Ua r
 else
 Va (F91 f e g) fun d=>
 bif !R (d.2=(0:Int)) then Ua Ud
 else
 Va
 (run
 (fun c=>
 bif R (c<(↑(U d.1):Int)) then
 Va
 (Va (idx d.1 c) fun s=>
 bif R ((40:Int)<(↑(U s.1.1):Int)) then Ua Uc
 else Va (idx d.1 c) fun t=>Va (F147 f e t.1) fun u=>Ua !u)
 fun v=>
 bif v then Ua (.inr (.inr Ud))
 else
 Va (idx d.1 c) fun h=>
 Va (F134 f e h.1) fun a=>
 Va
 (bif !R (a.2.2=(0:Int)) then Ua Uc
 else
 Va (idx d.1 c) fun b=>
 bif
 !(R (a.1.1=b.2.1.1) &&
 (R (a.1.2.1=b.2.1.2.1) &&
 (R (a.1.2.2.1=b.2.1.2.2.1) &&
 (R (a.1.2.2.2.1=b.2.1.2.2.2.1) &&
 R (a.1.2.2.2.2.1=b.2.1.2.2.2.2.1))))) then
 Ua Uc
 else
 Va (idx d.1 c) fun i=>
 Va (F139 a.2.1 i.2.2.1) fun j=>
 bif !j then Ua Uc
 else
 bif R (a.1.2.2.1<(1:Int)) then Ua Uc
 else bif R (g<a.1.1) then Ua Uc else Ua (R (a.1.1<e.2.2.1)))
 fun k=>bif k then Ua (.inr (.inr Ud)) else Ua (.inl (Vb .i64 (c+(1:Int))))
 else Ua (.inr (.inl ())))
 (0:Int))
 fun l=>Vf (fun _=>Va F61 fun m=>Ua m) (fun n=>Ua n) l
abbrev F58A:Pats:=(.cons (.pd Zh) (.cons (.pd Zk) (.cons (.pd Y3) .nil)))
def F58S:Tr.Spec:= {args:=F58A,res:=(.cons (.pd Y4) .nil),fns:=[],α:=El Y4,f:=fun x=>F58 x.1 x.2.1 x.2.2.1,unp:=fun z=>(((),(),(),()),(z,()))}
theorem F58_ok:ZS Tryz.prog 5 F58S:=WZ (rws:=[]) (zxs:=[]) (nt:=111) (m:=[(13,[F62E.S]),(14,[F61S]),(15,[F91E.S]),(16,[F63E.S]),(19,[F147E.S]),(20,[F134E.S]),(21,[F139E.S])]) (fn:=f5) (hint:=(hS (.seq (.seq (.reg [(23,Y4)]) .leaf) (hS (hS (.seq (hS (.lp (en [pd 9 Y3] [2,3,4,7]) [(.exit 0,e0),(.ret,en [pd 6 Y4] [])] (hS (.seq (.seq (.seq (.reg [(58,Y4)]) .leaf) (hS (.seq (.reg [(109,Y4)]) .leaf))) .leaf)))) .leaf)))))) (pack:=fun y=>y.2.1) K9 tab_okH ⟨⟨F62E.ok,trivial⟩,⟨F61_ok,trivial⟩,⟨F91E.ok,trivial⟩,⟨F63E.ok,trivial⟩,⟨F147E.ok,trivial⟩,⟨F134E.ok,trivial⟩,⟨F139E.ok,trivial⟩,trivial⟩ fun x z h=>.trans (by kernel_rfl) h
end
end Q

