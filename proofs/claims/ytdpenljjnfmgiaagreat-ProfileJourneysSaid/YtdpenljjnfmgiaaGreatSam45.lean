/- The functions of the program as functions of Lean, and that the program computes them; printed by a program of mine. Conditions: none. -/
import Derived.KernelRfl
import Derived.Test.YtdpenljjnfmgiaaGreatProg
import Derived.Test.YtdpenljjnfmgiaaGreatETrY
import Derived.Test.YtdpenljjnfmgiaaGreatETsF
open Tr Q Go Go.Proofs
open Bool renaming not_true ->Ve
open List renaming length ->Vc
open Option renaming bind ->Va,map ->Vb
open Prod renaming fst ->Vd
open Option renaming some ->Ua,none ->Ub
open Bool renaming true ->Uc,false ->Ud
open Decidable renaming decide ->Ue
namespace Qs
abbrev Y3:Ty:=.int .i64
abbrev Y4:Ty:=.bool
abbrev Y9:Ty:=.str
abbrev JX:Ty:=.prod Y9 (.prod Y3 (.prod Y3 (.prod Y3 (.prod Y3 (.prod Y3 .unit)))))
abbrev HD:Ty:=.sl JX
abbrev KL:Ty:=.prod HD (.prod Y3 (.prod Y3 (.prod Y3 .unit)))
abbrev JK:Ty:=.pn KL
def tyTab:List (Nat×Ty):=[(3,Y3),(4,Y4),(9,Y9),(133,JX),(27,HD),(29,KL),(206,JK)]
def mapTab:List (Nat×Ty×Ty):=[]
def pkTab:List (Nat×Nat):=[]
def bdTab:List (Nat×Nat):=[]
theorem K9:Tryz.prog.follows .mixedOrders=true:=by kernel_rfl
theorem tab_ok:HT Tryz.prog tyTab mapTab pkTab bdTab=true:=by kernel_rfl
noncomputable def F29:(El JK)->(El JK)->Option (El Y4):=fun c d=>
 bif Ue (Vb Vd c=Vb Vd d) then Ua Uc
 else
 Va
 (Va c fun _=>
 Va c fun n=>
 Va d fun _=>
 Va d fun o=>
 bif !Ue ((↑(Vc n.2.1):Int)=(↑(Vc o.2.1):Int)) then Ua Uc
 else
 Va c fun _=>
 Va c fun p=>
 Va d fun _=>
 Va d fun q=>
 bif !Ue (p.2.2.1=q.2.2.1) then Ua Uc
 else
 Va c fun _=>
 Va c fun r=>
 Va d fun _=>
 Va d fun g=>
 bif !Ue (r.2.2.2.1=g.2.2.2.1) then Ua Uc
 else
 Va c fun _=>
 Va c fun h=>Va d fun _=>Va d fun i=>Ua !Ue (h.2.2.2.2.1=i.2.2.2.2.1))
 fun j=>
 bif j then Ua Ud
 else
 Va c fun _=>
 Va c fun f=>
 Va
 (Tr.run
 (fun e=>
 bif Ue (e<(↑(Vc f.2.1):Int)) then
 Va (idx f.2.1 e) fun a=>
 Va d fun _=>
 Va d fun k=>
 Va (idx k.2.1 e) fun b=>
 bif
 !(Ue (a.1=b.1) &&
 (Ue (a.2.1=b.2.1) &&
 (Ue (a.2.2.1=b.2.2.1) &&
 (Ue (a.2.2.2.1=b.2.2.2.1) &&
 (Ue (a.2.2.2.2.1=b.2.2.2.2.1) &&
 Ue (a.2.2.2.2.2.1=b.2.2.2.2.2.1)))))) then
 Ua (.inr (.inr Ud))
 else Ua (.inl (IntKind.wrap .i64 (e+(1:Int))))
 else Ua (.inr (.inl ())))
 (0:Int))
 fun l=>Sum.elim (fun _=>Ua Uc) (fun m=>Ua m) l
abbrev F29A:Pats:=(.cons (.pd JK) (.cons (.pd JK) .nil))
abbrev F29R:Pats:=(.cons (.pd Y4) .nil)
noncomputable def F29S:Tr.Spec:= {args:=F29A,res:=F29R,fns:=[],α:=El Y4,f:=fun x=>F29 x.1 x.2.1,unp:=fun z=>(((),(),()),(z,()))}
noncomputable def F29M:List (Nat×List Tr.Spec):=[]
def F29H:K3:=(.seq .leaf (.seq .leaf (.seq (.seq (.reg [(53,Y4)]) .leaf) (.seq (.seq .leaf (.lp ⟨[(59,(.pd Y3))],[],[1,57,58],[],[],[]⟩ [((.exit 0),⟨[],[],[],[],[],[]⟩),(.ret,⟨[(4,(.pd Y4))],[],[],[],[],[]⟩)] .leaf)) .leaf))))
noncomputable def F29V(a:El JK)(b:El JK):Option (El Y4):=XO (mkE tyTab mapTab pkTab [] [] F29M 74 bdTab) (KX Tryz.f247) Tryz.f247.results F29H F29A F29R (fun y=>y.2.1) (a,b,())
theorem F29_eq(a:El JK)(b:El JK):F29V a b=F29 a b:=by kernel_rfl
theorem F29_ok:ZS Tryz.prog 247 F29S:=WZ (m:=F29M) (fn:=Tryz.f247) (hint:=F29H) (pack:=fun y=>y.2.1) K9 tab_ok trivial fun x z h=>(F29_eq x.1 x.2.1).trans h
def sameF(a b:El (.pt KL)):Option Bool:=a.bind fun x=>b.bind fun y=>bif J2 KL x y&&Ue (x.1.length<=4096) then Ua Uc else Ub
def ZvB:Pats:=.cons (.pd (.pt KL)) (.cons (.pd (.pt KL)) .nil)
def ZvC:Tr.Spec:= {args:=ZvB,res:=F29R,fns:=[],α:=Bool,f:=fun x=>sameF x.1 x.2.1,unp:=fun z=>(((),(),()),(z,()))}
theorem ZvE(b c:Nat)(x:El KL)(f:x.1.length<=4096):F29 (Ua (b,x)) (Ua (c,x))=Ua true:=by
 unfold F29;cases e:Ue (Vb Vd (Ua (b,x))=Vb Vd (Ua (c,x)))
 ·simp only[Zd,Za,decide_true,Ve];refine K4 (fun r=>r=Sum.inl ()) (KC x.1.length (fun r=>r=Sum.inl ()) (fun i s=>s=(i:Int)) ?_ ?_ _ rfl) ?_
  ·rintro i s a rfl;left;have d:Tr.idx x.1 (i:Int)=Ua x.1[i]:=ZE a;refine⟨((i+1:Nat):Int),?_,rfl⟩;rw[Zj (show (i:Int)<(x.1.length:Int) by omega),Ze,d];simp only[Za,decide_true,Bool.and_self,Ve,Zd];rw[ZH (by omega) (by omega)];rfl
  ·rintro s rfl;refine⟨_,?_,rfl⟩;rw[Zr (by omega)];rfl
  ·rintro r rfl;rfl
 ·rfl
theorem sam_ok:ZS Tryz.prog 247 ZvC where
 wf:=rfl
 fn:=F29_ok.fn
 run:=by
  intro w I s K x (z:Bool) n m d C e c;obtain⟨_,_,r,_,rfl,rfl,⟨⟨rfl,k⟩,g⟩,_,_,o,_,rfl,rfl,⟨⟨rfl,l⟩,i⟩,rfl,rfl⟩:=n;obtain⟨a,b,⟨⟩⟩:=x;have c:sameF a b=Ua z:=c
  cases a with
  |none=>cases c
  |some a=>
  cases b with
  |none=>cases c
  |some b=>
  simp only[sameF,Za]at c
  cases f:J2 KL a b&&Ue (a.1.length<=4096) with
  |false=>rw[f]at c;cases c
  |true=>
  rw[f,Ze]at c;cases c;rw[Bool.and_eq_true,KD]at f;have j:=ZcW KL a b f.1;subst j;obtain⟨p,t,v,F,D,A,H⟩:=k;obtain⟨q,u,y,G,E,B,J⟩:=l
  exact F29_ok.run w I [r,o] [] (Ua (p,a),Ua (q,a),()) Uc
   ⟨[],[],r,[o],rfl,rfl,⟨⟨rfl,t,v,F,D,A,H⟩,.inr (g.resolve_left fun h=>by cases h)⟩,[],[],o,[],rfl,rfl,⟨⟨rfl,u,y,G,E,B,J⟩,.inr (i.resolve_left fun h=>by cases h)⟩,rfl,rfl⟩ m d C e (ZvE p q a f.2)
