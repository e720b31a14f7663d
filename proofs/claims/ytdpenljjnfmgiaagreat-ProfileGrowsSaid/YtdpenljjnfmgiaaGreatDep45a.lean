/- profile's departing as pieces: the way to its last loop, a round of that loop, and what they compute. Conditions: none. -/
import Derived.Test.YtdpenljjnfmgiaaGreatFin45pa
import Derived.Test.YtdpenljjnfmgiaaGreatETrY
import Derived.Test.YtdpenljjnfmgiaaGreatETsF
open Int renaming toNat ->Vh
open Go.IntKind renaming wrap ->Vc
open List renaming length ->Vb,all_eq_true ->Ve,replicate ->Vg,map_map ->Vi
open Option renaming bind ->Va,bind_eq_some_iff ->Vd,map ->Vf
open Prod renaming snd ->Vj
namespace Q
open Tr Go Go.Proofs
noncomputable section
abbrev Zbv:Ty:=.prod Y3 (.prod Y3 .unit)
abbrev HA:Ty:=.sl Zbv
abbrev FX:=ZH Zh Zm Zx Y94
def Zd9(b:El Zh)(h:El Zm):Option (El Zh×El Zm×List (List Int) ×List (List (El Qn.Y91)) ×List (El Qn.Y91) ×List (El Qn.Y91) ×Unit):=
 Va
 (Zy
 (decide
 ((0:El (Tr.Ty.int .i64))<=(↑(Vb b.2.2.1):Int)/\
 (↑(Vb b.2.2.1):Int)<=(↑(Vb b.2.2.1):Int)/\(↑(Vb b.2.2.1):Int)<=(↑ZC:El (Tr.Ty.int .i64)))))
 fun _=>
 Va
 (Zy
 (decide
 ((0:El (Tr.Ty.int .i64))<=(↑(Vb b.1):Int)/\
 (↑(Vb b.1):Int)<=(↑(Vb b.1):Int)/\(↑(Vb b.1):Int)<=(↑ZC:El (Tr.Ty.int .i64)))))
 fun _=>
 Va
 (run
 (fun a=>
 bif decide (a.2<(↑(Vb b.2.2.2.1):Int)) then
 Va (idx b.2.2.2.1 a.2) fun f=>
 Va (ZA f.1 (Vb a.1.2.2.1)) fun d=>
 Va a.1.2.2.1[d]? fun _=>
 Va (idx a.1.2.2.1 (↑d:Int)) fun g=>
 Va (Zy (decide (Vb g+Vb [a.2]<=ZC))) fun _=>
 Va (ZA f.1 (Vb a.1.2.2.1)) fun e=>
 Va (Zy (DS (some (Vh (↑d:Int))) e)) fun _=>
 Va a.1.2.2.1[e]? fun _=>
 some
 (.inl
 ((a.1.1,a.1.2.1,List.set a.1.2.2.1 e (g++[a.2]),a.1.2.2.2.1,a.1.2.2.2.2.1,a.1.2.2.2.2.2.1,
 ()),
 Vc .i64 (a.2+(1:Int))))
 else some (.inr a.1))
 ((b,h,Vg (Vh (↑(Vb b.2.2.1):Int)) [],Vg (Vh (↑(Vb b.1):Int)) [],[],[],()),(0:Int)))
 fun c=>some c
def ZbR(l:List (List (El Qn.Y91))):Bool:=l.all fun r=>r.isEmpty
def ZaS(a:El Zh)(b:El Zm):Option FX:=(Zd9 a b).bind fun x=>bif ZbR x.2.2.2.1&& (x.2.2.2.2.1.isEmpty&&x.2.2.2.2.2.1.isEmpty) then some (x.1,x.2.1,x.2.2.1,x.2.2.2.1.map (fun _=>[]),[],[]) else none
theorem ZrY{a0:El Zh}{f:El Zm}{z:FX}(h:ZaS a0 f=some z):Qn.F114 a0 f=some z:=by
 unfold ZaS at h;rw[Vd]at h;obtain⟨x,d,a⟩:=h
 cases b:ZbR x.2.2.2.1&& (x.2.2.2.2.1.isEmpty&&x.2.2.2.2.2.1.isEmpty) with
 |false=>rw[b]at a;cases a
 |true=>
 rw[b,Zc,Option.some.injEq]at a;simp only[Bool.and_eq_true,List.isEmpty_iff,ZbR,Ve]at b;obtain⟨i,j,k⟩:=b
 have key:Tr.untag (tn:=Zh) (tq:=Zm) (lt:=Zx) (lb:=Y94) (x.1,x.2.1,x.2.2.1,x.2.2.2.1,x.2.2.2.2.1,x.2.2.2.2.2.1)=some z:=by
  have e:x.2.2.2.1.map (fun _=>([]:List (El Qn.Y91)))=x.2.2.2.1:=by
   conv=>rhs;rw[<-List.map_id x.2.2.2.1]
   exact List.map_congr_left fun r e=>(i r e).symm
  have p:XI (tn:=Zh) (tq:=Zm) (lt:=Zx) (fun _:El Y94=>0) z:=by subst a;intro y c;simp [Jz]at c;obtain⟨l,⟨_,rfl⟩,c⟩:=c;cases c
  rw[<-Tr.untag_eq p];congr 1;subst a;simp only[Wo,Vi,List.map_nil];rw[j,k];congr 3;rw[<-e,Vi];congr 1
 unfold Zd9 at d;unfold Qn.F114;simp only[Vd]at d⊢;obtain⟨u,m,v,n,y,o,g⟩:=d;simp only[Option.some.injEq]at g;subst g;exact⟨u,m,v,n,y,o,_,⟨_,key,rfl⟩,rfl⟩
def ZkE:Tr.Spec:= {args:=.cons (.pd Zh) (.cons (.pd Zm) .nil),res:=.cons (.fnd Zh Zm Zx Y94) .nil,fns:=[],α:=FX,f:=fun x=>ZaS x.1 x.2.1,unp:=fun z=>(((),(),()),(z,()))}
theorem Zr0:ZL Tryz.prog 77 ZkE where
 wf:=rfl
 fn:=Qn.F114_ok.fn
 run:=fun w I a h x z b c d e f g=>Qn.F114_ok.run w I a h x z b c d e f (ZrY g)
def ZkG(a:FX)(b:El (.pn Y94)):Option FX:=F108 a (Vf Vj b)
def ZkH:Tr.Spec:= {args:=.cons (.fnd Zh Zm Zx Y94) (.cons (.pd (.pn Y94)) .nil),res:=.nil,fns:=[],α:=FX,f:=fun x=>ZkG x.1 x.2.1,unp:=fun z=>((z,(),()),())}
theorem Zlf{w:World}{I:Nat->Prop}{t:Ty}{x:El (.pn t)}{cs:List Value}(h:Rd w I (.pn t) x cs):Rd w I (.pt t) (Vf Vj x) cs:=by
 cases x with
 |none=>exact h
 |some y=>
  obtain⟨cells,e,a,b,c,d⟩:=h;exact⟨y.1,cells,e,a,b,c,d⟩
theorem Zr4:ZL Tryz.prog 81 ZkH where
 wf:=rfl
 fn:=F108_ok.fn
 run:=by intro w I h C x (z:FX) j k l m n o;obtain⟨x,u,⟨⟩⟩:=x;obtain⟨g,y,v,r,rfl,rfl,s,A,B,f,D,rfl,rfl,⟨⟨rfl,d⟩,b⟩,rfl,rfl⟩:=j;refine(F108_ok.run w I [v,f] (g++[]) (x,Vf Vj u,()) z ⟨g,[],v,[f],rfl,rfl,s,[],[],f,[],rfl,rfl,⟨⟨rfl,Zlf d⟩,.inr (b.resolve_left (by simp))⟩,rfl,rfl⟩ k l m n o).mono ?_;rintro e E ⟨t,rfl,i,p,q,c,a⟩;exact⟨t,rfl,i,p,q,c,a⟩
def M1:List (Nat×List Tr.Spec):=[(77,[ZkE]),(78,[F19S]),(79,[F100S])]
def M2:List (Nat×List Tr.Spec):=[(80,[Qn.F152S]),(81,[ZkH])]
def Zms:List (Nat×Ty):=tyTab++[(143,Zbv),(85,HA)]
theorem ZtZ:Hq Tryz.prog Zms mapTab pkTab bdTab=true:=by kernel_rfl
def E1:Z3:=mkE Zms mapTab pkTab [94] [46] M1 150 bdTab
def E2:Z3:=mkE Qn.tyTab Qn.mapTab Qn.pkTab [] [] M2 150 Qn.bdTab
theorem Zab:ZX Tryz.prog E1:=typesOk_of ZtZ rfl rfl rfl rfl fun _ h=>absurd (show false=true from h) (by decide)
theorem ZhU:ZX Tryz.prog E2:=typesOk_of Qn.tab_ok rfl rfl rfl rfl fun _ h=>absurd (show false=true from h) (by decide)
theorem ZmR:∀f,∀S∈E1.specs f,ZL Tryz.prog f S:=Zhs (m:=M1) ⟨⟨Zr0,trivial⟩,⟨F19_ok,trivial⟩,⟨F100_ok,trivial⟩,trivial⟩ rfl
theorem ZmS:∀f,∀S∈E2.specs f,ZL Tryz.prog f S:=Zhs (m:=M2) ⟨⟨Qn.F152_ok,trivial⟩,⟨Zr4,trivial⟩,trivial⟩ rfl
theorem Zl4{m:List (Nat×List Tr.Spec)}(h:(m.all fun p=>p.2.all (·.pl))=true){E:Z3}(c:E.specs=fun n=>(m.lookup n).getD []):∀f,∀T∈E.specs f,T.pl=true:=by
 intro g T a;simp only[Ve]at h;rw[c]at a;simp only at a
 cases b:m.lookup g with
 |none=>rw[b]at a;simp at a
 |some l=>rw[b]at a;exact h (g,l) (DW b) T a
def Zf3:Code:=match KM Tryz.f37 with|.seq a _=>a|c=>c
def Zf4:Code:=match KM Tryz.f37 with|.seq _ (.seq a _)=>a|c=>c
def Zf5:Code:=match KM Tryz.f37 with|.seq _ (.seq _ (.seq a _))=>a|c=>c
def Zf6:Code:=match KM Tryz.f37 with|.seq _ (.seq _ (.seq _ (.seq a _)))=>a|c=>c
def Zf7:Code:=match KM Tryz.f37 with|.seq _ (.seq _ (.seq _ (.seq _ (.seq a _))))=>a|c=>c
def dpL:Code:=match KM Tryz.f37 with|.seq _ (.seq _ (.seq _ (.seq _ (.seq _ (.seq (.block _ (.loop l)) _)))))=>l|c=>c
def dpZ:Code:=match KM Tryz.f37 with|.seq _ (.seq _ (.seq _ (.seq _ (.seq _ (.seq _ z)))))=>z|c=>c
theorem Zp5:KM Tryz.f37=.seq Zf3 (.seq Zf4 (.seq Zf5 (.seq Zf6 (.seq Zf7 (.seq (.block 6 (.loop dpL)) dpZ))))):=by kernel_rfl
abbrev YS:Pats:=.cons (.pd Zh) (.cons (.pd Zm) (.cons (.pd HA) (.cons (.pd Y3) .nil)))
abbrev ZdB:Pats:=.cons (.pd K4) .nil
def eD:WA:=⟨[(9,.fnd Zh Zm Zx Y94)],[],[],[],[],[]⟩
abbrev JX(x:Kn YS):AS:=⟨(Z4 YS x 0).1.toF,Ws (Z4 YS x 0).2.1,(Z4 YS x 0).2.2,[]⟩
def dpH:KR:=(.seq .leaf (.lp ⟨[(9,(.fnd Zh Zm Zx Y94)),(33,(.pd Y3))],[],[3,4,5,10,31,32],[],[],[]⟩ [((.exit 0),⟨[(9,(.fnd Zh Zm Zx Y94))],[],[],[],[],[]⟩)] (.seq .leaf (.seq .leaf (.seq (.seq .leaf (.seq .leaf (.seq (.seq .leaf (.cnd (some (⟨[],[],[3,4,5,10,13,31,32,33],[],[],[]⟩,[(.normal,⟨[(9,(.fnd Zh Zm Zx Y94)),(14,(.pd (.pt Y94)))],[],[3,4,5,10,13,31,32,33],[],[],[]⟩)])) .leaf .leaf)) (.seq .leaf (.lp ⟨[(9,(.fnd Zh Zm Zx Y94)),(72,(.pd Y3))],[],[3,4,5,10,13,14,31,32,33,70,71],[],[],[]⟩ [((.exit 2),⟨[(9,(.fnd Zh Zm Zx Y94))],[],[3,4,5,10,31,32,33],[],[],[]⟩)] (.seq .leaf (.seq .leaf (.seq (.seq .leaf (.seq .leaf (.lp ⟨[(9,(.fnd Zh Zm Zx Y94)),(80,(.pd Y3))],[],[3,4,5,10,13,14,15,31,32,33,70,71,72,78,79],[],[],[]⟩ [((.exit 4),⟨[(9,(.fnd Zh Zm Zx Y94))],[],[3,4,5,10,13,14,31,32,33,70,71,72],[],[],[]⟩)] (.seq .leaf (.seq .leaf (.seq (.seq .leaf (.seq (.reg [(102,Y4)]) .leaf)) .leaf)))))) .leaf)))))))) .leaf)))))
def Zf9(x:Kn YS):Option (FX ⊕ El K4):=
 Kj Zf3 .leaf E1 (FX ⊕ El K4) (JX x) fun e s=>match e with
 |.normal=>Kj Zf4 .leaf E1 (FX ⊕ El K4) s fun e s=>match e with
  |.normal=>Kj Zf5 .leaf E1 (FX ⊕ El K4) s fun e s=>match e with
   |.normal=>Kj Zf6 .leaf E1 (FX ⊕ El K4) s fun e s=>match e with
    |.normal=>Kj Zf7 dpH E1 (FX ⊕ El K4) s fun e s=>match e with
     |.normal=>(Xw (JX x) [] eD s).bind fun x=>some (.inl x)
     |_=>none
    |.ret=>(X3 E1 Tryz.f37.results YS ZdB [] .ret s).bind fun y=>some (.inr y.2.1)
    |_=>none
   |_=>none
  |_=>none
 |_=>none
abbrev fP:Pat:=XP Zh Zm Zx Y94
def dpO(y:KP fP):AS:=⟨fun t=>bif Nat.beq t 9 then(inj fP y 1).1 else .junk,Ws (inj fP y 1).2.1,(inj fP y 1).2.2,[]⟩
def e8:WA:=⟨[(8,.own Qn.Y91 false)],[],[],[],[],[]⟩
def Zjq(y:KP fP):Option (FX ⊕ List (El Qn.Y91)):=
 Kj dpL .leaf E2 (FX ⊕ List (El Qn.Y91)) (dpO y) fun e s=>match e with
 |.normal=>(Xw (dpO y) [] eD s).bind fun x=>some (.inl x)
 |.exit 6=>Kj dpZ .leaf E2 (FX ⊕ List (El Qn.Y91)) s fun e s=>match e with
   |.ret=>(Xw (dpO y) [] e8 s).bind fun l=>some (.inr l)
   |_=>none
 |_=>none
def ZdC:El Zh->El Zm->El HA->El Y3->Option (FX ⊕ El K4):=fun n q ws at' =>
 Va (ZaS n q) fun p=>
 Va (F19 n.2.2.2.2.2.1) fun f=>
 bif !decide (f.2=(0:Int)) then some (.inr [])
 else
 Va
 (run
 (fun c=>
 bif decide (c.2<(↑(Vb ws):Int)) then
 Va (idx ws c.2) fun a=>
 Va
 (bif decide ((0:Int)<a.2.1) then
 some
 (c.1,
 some
 (a.1,Vc .i64 (at' +a.2.1),Vc .i64 (at' +a.2.1),(0:Int),a.2.1,false,f.1,
 [(false,(0:Int),(0:Int),(0:Int),q.1,a.1,at',Vc .i64 (at' +a.2.1),false,())],()))
 else
 some
 (c.1,
 some
 (a.1,Vc .i64 (at' +a.2.1),Vc .i64 (at' +a.2.1),(0:Int),a.2.1,false,f.1,
 ([]:List (El Jp)),())))
 fun e=>
 Va
 (run
 (fun d=>
 bif decide (d.2<(↑(Vb n.2.2.1):Int)) then
 Va (idx n.2.2.1 d.2) fun o=>
 Va
 (run
 (fun b=>
 bif decide (b.2<(↑(Vb o.2.2.2.2.2.2.2.1):Int)) then
 Va (idx o.2.2.2.2.2.2.2.1 b.2) fun m=>
 Va
 (bif decide (m.1=a.1) then
 bif m.2.2.2.1 then Va e.2 fun r=>Va e.2 fun g=>some (decide (m.2.2.1=g.2.2.1))
 else some false
 else some false)
 fun h=>
 bif h then
 Va (F100 b.1 e.2 d.2 b.2) fun i=>some (.inl (i,Vc .i64 (b.2+(1:Int))))
 else some (.inl (b.1,Vc .i64 (b.2+(1:Int))))
 else some (.inr b.1))
 (d.1,(0:Int)))
 fun j=>some (.inl (j,Vc .i64 (d.2+(1:Int))))
 else some (.inr d.1))
 (e.1,(0:Int)))
 fun k=>some (.inl (k,Vc .i64 (c.2+(1:Int))))
 else some (.inr c.1))
 (p,(0:Int)))
 fun l=>some (.inl l)
theorem Zp4(n:El Zh)(q:El Zm)(ws:El HA)(d:El Y3):Zf9 (n,q,ws,d,())=ZdC n q ws d:=by kernel_rfl
def Zf8(y:KP fP):Option (FX ⊕ List (El Qn.Y91)):=
 bif decide ((0:Int)<(↑(Vb y.2.2.2.2.1):Int)) then
 Va (ZA (0:Int) (Vb y.2.2.2.2.1)) fun g=>
 Va y.2.2.2.2.1[g]? fun b=>
 Va (sliceB (Vb y.2.2.2.2.1) (Vb y.2.2.2.2.1) (some (1:Int)) none) fun a=>
 Va b fun _=>
 Va b fun h=>
 Va (ZA h.2.1 (Vb y.2.2.2.1)) fun f=>
 Va y.2.2.2.1[f]? fun _=>
 Va (idx y.2.2.2.1 (↑f:Int)) fun i=>
 Va (Qn.F152 i b) fun j=>
 bif j then
 Va (Tr.untag (y.1,y.2.1,y.2.2.1,y.2.2.2.1,List.take (a.2 - a.1) (List.drop a.1 y.2.2.2.2.1),y.2.2.2.2.2.1))
 fun k=>Va (ZkG k b) fun c=>some (.inl c)
 else
 Va
 (Va (Tr.untag (y.1,y.2.1,y.2.2.1,y.2.2.2.1,List.take (a.2 - a.1) (List.drop a.1 y.2.2.2.2.1),y.2.2.2.2.2.1))
 fun d=>some d)
 fun e=>some (.inl e)
 else some (.inr y.2.2.2.2.2.1)
theorem Zp2(y:KP fP):Zjq y=Zf8 y:=by kernel_rfl
end
end Q
