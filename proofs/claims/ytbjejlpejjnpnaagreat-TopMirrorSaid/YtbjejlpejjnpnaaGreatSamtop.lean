/- The functions of the program as functions of Lean, and that the program computes them; printed by a program of mine. Conditions: none. -/
import Derived.KernelRfl
import Derived.Test.YtbjejlpejjnpnaaGreatProg
import Derived.Test.YtbjejlpejjnpnaaGreatETsC
import Derived.Test.YtbjejlpejjnpnaaGreatETsF
open Tr Q Go Go.Proofs
open Bool renaming not_true ->Ve
open List renaming length ->Vc
open Option renaming bind ->Va,map ->Vb
open Prod renaming fst ->Vd
namespace Qs
abbrev Y3:Ty:=.int .i64
abbrev Y4:Ty:=.bool
abbrev Y9:Ty:=.str
abbrev Y2:Ty:=.prod Y9 (.prod Y3 (.prod Y3 (.prod Y3 (.prod Y3 (.prod Y3 .unit)))))
abbrev G1:Ty:=.sl Y2
abbrev K9:Ty:=.prod G1 (.prod Y3 (.prod Y3 (.prod Y3 .unit)))
abbrev XT:Ty:=.pn K9
def tyTab:List (Nat×Ty):=[(3,Y3),(4,Y4),(9,Y9),(94,Y2),(27,G1),(29,K9),(180,XT)]
def mapTab:List (Nat×Ty×Ty):=[]
def pkTab:List (Nat×Nat):=[]
def bdTab:List (Nat×Nat):=[]
theorem Xr:Tryz.prog.follows .mixedOrders=true:=by kernel_rfl
theorem tab_ok:ZcQ Tryz.prog tyTab mapTab pkTab bdTab=true:=by kernel_rfl
noncomputable def F28:(El XT)->(El XT)->Option (El Y4):=fun c d=>
 bif decide (Vb Vd c=Vb Vd d) then some true
 else
 Va
 (Va c fun _=>
 Va c fun n=>
 Va d fun _=>
 Va d fun o=>
 bif !decide ((↑(Vc n.2.1):Int)=(↑(Vc o.2.1):Int)) then some true
 else
 Va c fun _=>
 Va c fun p=>
 Va d fun _=>
 Va d fun q=>
 bif !decide (p.2.2.1=q.2.2.1) then some true
 else
 Va c fun _=>
 Va c fun r=>
 Va d fun _=>
 Va d fun g=>
 bif !decide (r.2.2.2.1=g.2.2.2.1) then some true
 else
 Va c fun _=>
 Va c fun h=>Va d fun _=>Va d fun i=>some !decide (h.2.2.2.2.1=i.2.2.2.2.1))
 fun j=>
 bif j then some false
 else
 Va c fun _=>
 Va c fun f=>
 Va
 (Tr.run
 (fun e=>
 bif decide (e<(↑(Vc f.2.1):Int)) then
 Va (idx f.2.1 e) fun a=>
 Va d fun _=>
 Va d fun k=>
 Va (idx k.2.1 e) fun b=>
 bif
 !(decide (a.1=b.1) &&
 (decide (a.2.1=b.2.1) &&
 (decide (a.2.2.1=b.2.2.1) &&
 (decide (a.2.2.2.1=b.2.2.2.1) &&
 (decide (a.2.2.2.2.1=b.2.2.2.2.1) &&
 decide (a.2.2.2.2.2.1=b.2.2.2.2.2.1)))))) then
 some (.inr (.inr false))
 else some (.inl (IntKind.wrap .i64 (e+(1:Int))))
 else some (.inr (.inl ())))
 (0:Int))
 fun l=>Sum.elim (fun _=>some true) (fun m=>some m) l
abbrev F28A:Pats:=(.cons (.pd XT) (.cons (.pd XT) .nil))
abbrev F28R:Pats:=(.cons (.pd Y4) .nil)
noncomputable def F28S:Tr.Spec:= {args:=F28A,res:=F28R,fns:=[],α:=El Y4,f:=fun x=>F28 x.1 x.2.1,unp:=fun z=>(((),(),()),(z,()))}
noncomputable def F28M:List (Nat×List Tr.Spec):=[]
def F28H:WL:=(.seq .leaf (.seq .leaf (.seq (.seq (.reg [(53,Y4)]) .leaf) (.seq (.seq .leaf (.lp ⟨[(59,(.pd Y3))],[],[1,57,58],[],[],[]⟩ [((.exit 0),⟨[],[],[],[],[],[]⟩),(.ret,⟨[(4,(.pd Y4))],[],[],[],[],[]⟩)] .leaf)) .leaf))))
noncomputable def F28V(a:El XT)(b:El XT):Option (El Y4):=GD (mkE tyTab mapTab pkTab [] [] F28M 74 bdTab) (HK Tryz.f238) Tryz.f238.results F28H F28A F28R (fun y=>y.2.1) (a,b,())
theorem F28_eq(a:El XT)(b:El XT):F28V a b=F28 a b:=by kernel_rfl
theorem F28_ok:ZX Tryz.prog 238 F28S:=XG (m:=F28M) (fn:=Tryz.f238) (hint:=F28H) (pack:=fun y=>y.2.1) Xr tab_ok trivial fun x z h=>(F28_eq x.1 x.2.1).trans h
def sameF(a b:El (.pt K9)):Option Bool:=a.bind fun x=>b.bind fun y=>bif JU K9 x y&&decide (x.1.length<=4096) then some true else none
def Ztx:Pats:=.cons (.pd (.pt K9)) (.cons (.pd (.pt K9)) .nil)
def Zty:Tr.Spec:= {args:=Ztx,res:=F28R,fns:=[],α:=Bool,f:=fun x=>sameF x.1 x.2.1,unp:=fun z=>(((),(),()),(z,()))}
theorem ZtA(b c:Nat)(x:El K9)(f:x.1.length<=4096):F28 (some (b,x)) (some (c,x))=some true:=by
 unfold F28;cases e:decide (Vb Vd (some (b,x))=Vb Vd (some (c,x)))
 ·simp only[Ze,Za,decide_true,Ve];refine KF (fun r=>r=Sum.inl ()) (Kq x.1.length (fun r=>r=Sum.inl ()) (fun i s=>s=(i:Int)) ?_ ?_ _ rfl) ?_
  ·rintro i s a rfl;left;have d:Tr.idx x.1 (i:Int)=some x.1[i]:=ZH a;refine⟨((i+1:Nat):Int),?_,rfl⟩;rw[Zd (show (i:Int)<(x.1.length:Int) by omega),Zc,d];simp only[Za,decide_true,Bool.and_self,Ve,Ze];rw[Zs (by omega) (by omega)];rfl
  ·rintro s rfl;refine⟨_,?_,rfl⟩;rw[Zk (by omega)];rfl
  ·rintro r rfl;rfl
 ·rfl
theorem sam_ok:ZX Tryz.prog 238 Zty where
 wf:=rfl
 fn:=F28_ok.fn
 run:=by
  intro w I s K x (z:Bool) n m d C e c;obtain⟨_,_,r,_,rfl,rfl,⟨⟨rfl,k⟩,g⟩,_,_,o,_,rfl,rfl,⟨⟨rfl,l⟩,i⟩,rfl,rfl⟩:=n;obtain⟨a,b,⟨⟩⟩:=x;have c:sameF a b=some z:=c
  cases a with
  |none=>cases c
  |some a=>
  cases b with
  |none=>cases c
  |some b=>
  simp only[sameF,Za]at c
  cases f:JU K9 a b&&decide (a.1.length<=4096) with
  |false=>rw[f]at c;cases c
  |true=>
  rw[f,Zc]at c;cases c;rw[Bool.and_eq_true,KQ]at f;have j:=Zb1 K9 a b f.1;subst j;obtain⟨p,t,v,F,D,A,H⟩:=k;obtain⟨q,u,y,G,E,B,J⟩:=l
  exact F28_ok.run w I [r,o] [] (some (p,a),some (q,a),()) true
   ⟨[],[],r,[o],rfl,rfl,⟨⟨rfl,t,v,F,D,A,H⟩,.inr (g.resolve_left fun h=>by cases h)⟩,[],[],o,[],rfl,rfl,⟨⟨rfl,u,y,G,E,B,J⟩,.inr (i.resolve_left fun h=>by cases h)⟩,rfl,rfl⟩ m d C e (ZtA p q a f.2)
end Qs
