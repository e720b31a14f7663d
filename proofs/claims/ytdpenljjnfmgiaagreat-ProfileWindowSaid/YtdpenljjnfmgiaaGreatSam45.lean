/- The functions of the program as functions of Lean, and that the program computes them; printed by a program of mine. Conditions: none. -/
import Derived.KernelRfl
import Derived.Test.YtdpenljjnfmgiaaGreatProg
import Derived.Test.YtdpenljjnfmgiaaGreatETsF
open Tr Q Go Go.Proofs
open List renaming length ->Vc
open Option renaming bind ->Va,map ->Vb
open Prod renaming fst ->Vd
open Option renaming some ->Ua,none ->Ub
open Bool renaming true ->Uc,false ->Ud
open Decidable renaming decide ->Ue
namespace Qs
abbrev Y3:Ty:=.int .i64
abbrev Y4:Ty:=.bool
abbrev Y9:Ty:=.str
abbrev Xc:Ty:=.prod Y9 (.prod Y3 (.prod Y3 (.prod Y3 (.prod Y3 (.prod Y3 .unit)))))
abbrev Gk:Ty:=.sl Xc
abbrev KV:Ty:=.prod Gk (.prod Y3 (.prod Y3 (.prod Y3 .unit)))
abbrev Xt:Ty:=.pn KV
def tyTab:List (Nat×Ty):=[(3,Y3),(4,Y4),(9,Y9),(133,Xc),(27,Gk),(29,KV),(206,Xt)]
def mapTab:List (Nat×Ty×Ty):=[]
def pkTab:List (Nat×Nat):=[]
def bdTab:List (Nat×Nat):=[]
theorem Wi:Tryz.prog.follows .mixedOrders=true:=by kernel_rfl
theorem tab_ok:DW Tryz.prog tyTab mapTab pkTab bdTab=true:=by kernel_rfl
noncomputable def F29:(El Xt)->(El Xt)->Option (El Y4):=λc d=>
 bif Ue (Vb Vd c=Vb Vd d) then Ua Uc
 else
 Va
 (Va c λ_=>
 Va c λn=>
 Va d λ_=>
 Va d λo=>
 bif !Ue ((↑(Vc n.2.1))=(↑(Vc o.2.1):Int)) then Ua Uc
 else
 Va c λ_=>
 Va c λp=>
 Va d λ_=>
 Va d λq=>
 bif !Ue (p.2.2.1=q.2.2.1) then Ua Uc
 else
 Va c λ_=>
 Va c λr=>
 Va d λ_=>
 Va d λg=>
 bif !Ue (r.2.2.2.1=g.2.2.2.1) then Ua Uc
 else
 Va c λ_=>
 Va c λh=>Va d λ_=>Va d λi=>Ua !Ue (h.2.2.2.2.1=i.2.2.2.2.1))
 λj=>
 bif j then Ua Ud
 else
 Va c λ_=>
 Va c λf=>
 Va
 (Tr.run
 (λe=>
 bif Ue (e<(↑(Vc f.2.1))) then
 Va (idx f.2.1 e) λa=>
 Va d λ_=>
 Va d λk=>
 Va (idx k.2.1 e) λb=>
 bif
 !(Ue (a.1=b.1)&&
 (Ue (a.2.1=b.2.1)&&
 (Ue (a.2.2.1=b.2.2.1)&&
 (Ue (a.2.2.2.1=b.2.2.2.1)&&
 (Ue (a.2.2.2.2.1=b.2.2.2.2.1)&&
 Ue (a.2.2.2.2.2.1=b.2.2.2.2.2.1)))))) then
 Ua (.inr (.inr Ud))
 else Ua (.inl (IntKind.wrap .i64 (e+1)))
 else Ua (.inr (.inl ())))
 0)
 λl=>Sum.elim (λ_=>Ua Uc) (λm=>Ua m) l
abbrev F29A:Pats:=(.cons (.pd Xt) (.cons (.pd Xt) .nil))
abbrev F29R:Pats:=(.cons (.pd Y4) .nil)
noncomputable def F29S:Tr.Spec:={args:=F29A,res:=F29R,fns:=[],α:=El Y4,f:=λx=>F29 x.1 x.2.1,unp:=λz=>(((),(),()),(z,()))}
noncomputable def F29M:List (Nat×List Tr.Spec):=[]
def F29H:Wf:=(.seq .leaf (.seq .leaf (.seq (.seq (.reg [(53,Y4)]) .leaf) (.seq (.seq .leaf (.lp ⟨[(59,(.pd Y3))],[],[1,57,58],[],[],[]⟩ [((.exit 0),⟨[],[],[],[],[],[]⟩),(.ret,⟨[(4,(.pd Y4))],[],[],[],[],[]⟩)] .leaf)) .leaf))))
noncomputable def F29V(a:El Xt)(b:El Xt):Option (El Y4):=Yu (mkE tyTab mapTab pkTab [] [] F29M 74 bdTab) (Wh Tryz.f247) Tryz.f247.results F29H F29A F29R (λy=>y.2.1) (a,b,())
theorem F29_eq a b:F29V a b=F29 a b:=by kernel_rfl
theorem F29_ok:ZR Tryz.prog 247 F29S:=W6 (m:=F29M) Wi tab_ok trivial λx z h=>(F29_eq x.1 x.2.1).trans h
def sameF(a b:El (.pt KV)):Option Bool:=a.bind λx=>b.bind λy=>bif Xf KV x y&&Ue (x.1.length<=4096) then Ua Uc else Ub
def ZyH:Pats:=.cons (.pd (.pt KV)) (.cons (.pd (.pt KV)) .nil)
def ZyI:Tr.Spec:={args:=ZyH,res:=F29R,fns:=[],α:=Bool,f:=λx=>sameF x.1 x.2.1,unp:=λz=>(((),(),()),(z,()))}
theorem ZyK b c x(f:x.1.length<=4096):F29 (Ua (b,x)) (Ua (c,x))=Ua true:=by
 unfold F29;cases e:Ue (Vb Vd (Ua (b,x))=Vb Vd (Ua (c,x)))
 .simp[decide_true];refine KK (λr=>r=Sum.inl ()) (Kg x.1.length (λr=>r=Sum.inl ()) (λi s=>s=(i:Int)) ?_ ?_ _ rfl) ?_
  .rintro i s a rfl;left;have d:Tr.idx x.1 i=Ua x.1[i]:=ZC a;refine⟨((i+1:Nat)),?_,rfl⟩;rw[Zi (show i<(x.1.length:Int) by omega),Zf,d];simp only[Za,Ze];rw[ZB (by omega) (by omega)];rfl
  .rintro s rfl;refine⟨_,?_,rfl⟩;rw[Zm (by omega)];rfl
  rintro r rfl;rfl
 rfl
theorem sam_ok:ZR Tryz.prog 247 ZyI where
 wf:=rfl
 fn:=F29_ok.fn
 run:=by
  intro w I s L x z n m d C e c;obtain⟨_,_,r,_,rfl,rfl,⟨⟨rfl,k⟩,g⟩,_,_,o,_,rfl,rfl,⟨⟨rfl,l⟩,i⟩,rfl,rfl⟩:=n;have⟨a,b,⟨⟩⟩:=x;have c:sameF a b=Ua z:=c
  cases a with
  |none=>cases c
  |some a=>
  cases b with
  |none=>cases c
  |some b=>
  simp[sameF]at c
  cases f:Xf KV a b&&Ue (a.1.length<=4096) with
  |false=>rw[f]at c;cases c
  |true=>
  rw[f,Zf]at c;cases c;rw[Bool.and_eq_true,KJ]at f;have j:=ZdS KV a b f.1;subst j;have⟨p,t,v,F,D,A,J⟩:=k;have⟨q,u,y,H,E,B,K⟩:=l;exact F29_ok.run w I [r,o] [] (Ua (p,a),Ua (q,a),()) Uc
   ⟨[],[],r,[o],rfl,rfl,⟨⟨rfl,t,v,F,D,A,J⟩,.inr (g.resolve_left λh=>by cases h)⟩,[],[],o,[],rfl,rfl,⟨⟨rfl,u,y,H,E,B,K⟩,.inr (i.resolve_left λh=>by cases h)⟩,rfl,rfl⟩ m d C e (ZyK p q a f.2)
