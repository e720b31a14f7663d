/- The functions of the program as functions of Lean, and that the program computes them; printed by a program of mine. Conditions: none. -/
import Derived.KernelRfl
import Derived.Test.YtdpenljjnfmgiaaGreatProg
import Derived.Test.YtdpenljjnfmgiaaGreatETrY
import Derived.Test.YtdpenljjnfmgiaaGreatETsF
open Tr Q Go Go.Proofs
open Bool renaming not_true ->Ve
open List renaming length ->Vc
open Option renaming bind ->Va,map ->Vb
open Prod renaming fst ->Vd
namespace Qs
abbrev Y3:Ty:=.int .i64
abbrev Y4:Ty:=.bool
abbrev Y9:Ty:=.str
abbrev XJ:Ty:=.prod Y9 (.prod Y3 (.prod Y3 (.prod Y3 (.prod Y3 (.prod Y3 .unit)))))
abbrev Hc:Ty:=.sl XJ
abbrev KK:Ty:=.prod Hc (.prod Y3 (.prod Y3 (.prod Y3 .unit)))
abbrev Jw:Ty:=.pn KK
def tyTab:List (Nat×Ty):=[(3,Y3),(4,Y4),(9,Y9),(133,XJ),(27,Hc),(29,KK),(206,Jw)]
def mapTab:List (Nat×Ty×Ty):=[]
def pkTab:List (Nat×Nat):=[]
def bdTab:List (Nat×Nat):=[]
theorem KZ:Tryz.prog.follows .mixedOrders=true:=by kernel_rfl
theorem tab_ok:Hq Tryz.prog tyTab mapTab pkTab bdTab=true:=by kernel_rfl
noncomputable def F29:(El Jw)->(El Jw)->Option (El Y4):=fun c d=>
 bif decide (Vb Vd c=Vb Vd d) then some true
 else
 Va
 (Va c fun _=>
 Va c fun n=>
 Va d fun _=>
 Va d fun o=>
 bif !decide ((↑(Vc n.2.1):Int)=(↑(Vc o.2.1):Int)) then some true
 else
 Va c fun _=>
 Va c fun p=>
 Va d fun _=>
 Va d fun q=>
 bif !decide (p.2.2.1=q.2.2.1) then some true
 else
 Va c fun _=>
 Va c fun r=>
 Va d fun _=>
 Va d fun g=>
 bif !decide (r.2.2.2.1=g.2.2.2.1) then some true
 else
 Va c fun _=>
 Va c fun h=>Va d fun _=>Va d fun i=>some !decide (h.2.2.2.2.1=i.2.2.2.2.1))
 fun j=>
 bif j then some false
 else
 Va c fun _=>
 Va c fun f=>
 Va
 (Tr.run
 (fun e=>
 bif decide (e<(↑(Vc f.2.1):Int)) then
 Va (idx f.2.1 e) fun a=>
 Va d fun _=>
 Va d fun k=>
 Va (idx k.2.1 e) fun b=>
 bif
 !(decide (a.1=b.1) &&
 (decide (a.2.1=b.2.1) &&
 (decide (a.2.2.1=b.2.2.1) &&
 (decide (a.2.2.2.1=b.2.2.2.1) &&
 (decide (a.2.2.2.2.1=b.2.2.2.2.1) &&
 decide (a.2.2.2.2.2.1=b.2.2.2.2.2.1)))))) then
 some (.inr (.inr false))
 else some (.inl (IntKind.wrap .i64 (e+(1:Int))))
 else some (.inr (.inl ())))
 (0:Int))
 fun l=>Sum.elim (fun _=>some true) (fun m=>some m) l
abbrev F29A:Pats:=(.cons (.pd Jw) (.cons (.pd Jw) .nil))
abbrev F29R:Pats:=(.cons (.pd Y4) .nil)
noncomputable def F29S:Tr.Spec:= {args:=F29A,res:=F29R,fns:=[],α:=El Y4,f:=fun x=>F29 x.1 x.2.1,unp:=fun z=>(((),(),()),(z,()))}
noncomputable def F29M:List (Nat×List Tr.Spec):=[]
def F29H:KR:=(.seq .leaf (.seq .leaf (.seq (.seq (.reg [(53,Y4)]) .leaf) (.seq (.seq .leaf (.lp ⟨[(59,(.pd Y3))],[],[1,57,58],[],[],[]⟩ [((.exit 0),⟨[],[],[],[],[],[]⟩),(.ret,⟨[(4,(.pd Y4))],[],[],[],[],[]⟩)] .leaf)) .leaf))))
noncomputable def F29V(a:El Jw)(b:El Jw):Option (El Y4):=XO (mkE tyTab mapTab pkTab [] [] F29M 74 bdTab) (KM Tryz.f247) Tryz.f247.results F29H F29A F29R (fun y=>y.2.1) (a,b,())
theorem F29_eq(a:El Jw)(b:El Jw):F29V a b=F29 a b:=by kernel_rfl
theorem F29_ok:ZL Tryz.prog 247 F29S:=WS (m:=F29M) (fn:=Tryz.f247) (hint:=F29H) (pack:=fun y=>y.2.1) KZ tab_ok trivial fun x z h=>(F29_eq x.1 x.2.1).trans h
def sameF(a b:El (.pt KK)):Option Bool:=a.bind fun x=>b.bind fun y=>bif JK KK x y&&decide (x.1.length<=4096) then some true else none
def Ztp:Pats:=.cons (.pd (.pt KK)) (.cons (.pd (.pt KK)) .nil)
def Ztq:Tr.Spec:= {args:=Ztp,res:=F29R,fns:=[],α:=Bool,f:=fun x=>sameF x.1 x.2.1,unp:=fun z=>(((),(),()),(z,()))}
theorem Zts(b c:Nat)(x:El KK)(f:x.1.length<=4096):F29 (some (b,x)) (some (c,x))=some true:=by
 unfold F29;cases e:decide (Vb Vd (some (b,x))=Vb Vd (some (c,x)))
 ·simp only[Ze,Za,decide_true,Ve];refine WE (fun r=>r=Sum.inl ()) (Wa x.1.length (fun r=>r=Sum.inl ()) (fun i s=>s=(i:Int)) ?_ ?_ _ rfl) ?_
  ·rintro i s a rfl;left;have d:Tr.idx x.1 (i:Int)=some x.1[i]:=ZI a;refine⟨((i+1:Nat):Int),?_,rfl⟩;rw[Zi (show (i:Int)<(x.1.length:Int) by omega),Zc,d];simp only[Za,decide_true,Bool.and_self,Ve,Ze];rw[Z1 (by omega) (by omega)];rfl
  ·rintro s rfl;refine⟨_,?_,rfl⟩;rw[Zv (by omega)];rfl
  ·rintro r rfl;rfl
 ·rfl
theorem sam_ok:ZL Tryz.prog 247 Ztq where
 wf:=rfl
 fn:=F29_ok.fn
 run:=by
  intro w I s K x (z:Bool) n m d C e c;obtain⟨_,_,r,_,rfl,rfl,⟨⟨rfl,k⟩,g⟩,_,_,o,_,rfl,rfl,⟨⟨rfl,l⟩,i⟩,rfl,rfl⟩:=n;obtain⟨a,b,⟨⟩⟩:=x;have c:sameF a b=some z:=c
  cases a with
  |none=>cases c
  |some a=>
  cases b with
  |none=>cases c
  |some b=>
  simp only[sameF,Za]at c
  cases f:JK KK a b&&decide (a.1.length<=4096) with
  |false=>rw[f]at c;cases c
  |true=>
  rw[f,Zc]at c;cases c;rw[Bool.and_eq_true,WC]at f;have j:=ZbS KK a b f.1;subst j;obtain⟨p,t,v,F,D,A,H⟩:=k;obtain⟨q,u,y,G,E,B,J⟩:=l
  exact F29_ok.run w I [r,o] [] (some (p,a),some (q,a),()) true
   ⟨[],[],r,[o],rfl,rfl,⟨⟨rfl,t,v,F,D,A,H⟩,.inr (g.resolve_left fun h=>by cases h)⟩,[],[],o,[],rfl,rfl,⟨⟨rfl,u,y,G,E,B,J⟩,.inr (i.resolve_left fun h=>by cases h)⟩,rfl,rfl⟩ m d C e (Zts p q a f.2)
