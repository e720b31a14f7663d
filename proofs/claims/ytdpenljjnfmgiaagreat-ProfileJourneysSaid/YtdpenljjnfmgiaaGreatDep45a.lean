/- profile's departing as pieces: the way to its last loop, a round of that loop, and what they compute. Conditions: none. -/
import Derived.Test.YtdpenljjnfmgiaaGreatFin45pa
import Derived.Test.YtdpenljjnfmgiaaGreatETrY
import Derived.Test.YtdpenljjnfmgiaaGreatETsF
open Int renaming toNat ->Vh
open Go.IntKind renaming wrap ->Vc
open List renaming length ->Vb,all_eq_true ->Ve,replicate ->Vg,map_map ->Vi
open Option renaming bind ->Va,bind_eq_some_iff ->Vd,map ->Vf
open Prod renaming snd ->Vj
open Option renaming some ->Ua,none ->Ub
open Bool renaming true ->Uc,false ->Ud
open Decidable renaming decide ->Ue
namespace Q
open Tr Go Go.Proofs
noncomputable section
abbrev Zcx:Ty:=.prod Y3 (.prod Y3 .unit)
abbrev H6:Ty:=.sl Zcx
abbrev FX:=ZO Zh Zk ZC Y94
def Zfa(b:El Zh)(h:El Zk):Option (El Zh×El Zk×List (List Int) ×List (List (El Qn.Y91)) ×List (El Qn.Y91) ×List (El Qn.Y91) ×Unit):=
 Va
 (Zz
 (decide
 ((0:El (Tr.Ty.int .i64))<=(↑(Vb b.2.2.1):Int)/\
 (↑(Vb b.2.2.1):Int)<=(↑(Vb b.2.2.1):Int)/\(↑(Vb b.2.2.1):Int)<=(↑ZD:El (Tr.Ty.int .i64)))))
 fun _=>
 Va
 (Zz
 (decide
 ((0:El (Tr.Ty.int .i64))<=(↑(Vb b.1):Int)/\
 (↑(Vb b.1):Int)<=(↑(Vb b.1):Int)/\(↑(Vb b.1):Int)<=(↑ZD:El (Tr.Ty.int .i64)))))
 fun _=>
 Va
 (run
 (fun a=>
 bif Ue (a.2<(↑(Vb b.2.2.2.1):Int)) then
 Va (idx b.2.2.2.1 a.2) fun f=>
 Va (Zs f.1 (Vb a.1.2.2.1)) fun d=>
 Va a.1.2.2.1[d]? fun _=>
 Va (idx a.1.2.2.1 (↑d:Int)) fun g=>
 Va (Zz (Ue (Vb g+Vb [a.2]<=ZD))) fun _=>
 Va (Zs f.1 (Vb a.1.2.2.1)) fun e=>
 Va (Zz (RR (Ua (Vh (↑d:Int))) e)) fun _=>
 Va a.1.2.2.1[e]? fun _=>
 Ua
 (.inl
 ((a.1.1,a.1.2.1,List.set a.1.2.2.1 e (g++[a.2]),a.1.2.2.2.1,a.1.2.2.2.2.1,a.1.2.2.2.2.2.1,
 ()),
 Vc .i64 (a.2+(1:Int))))
 else Ua (.inr a.1))
 ((b,h,Vg (Vh (↑(Vb b.2.2.1):Int)) [],Vg (Vh (↑(Vb b.1):Int)) [],[],[],()),(0:Int)))
 fun c=>Ua c
def ZcV(l:List (List (El Qn.Y91))):Bool:=l.all fun r=>r.isEmpty
def ZbT(a:El Zh)(b:El Zk):Option FX:=(Zfa a b).bind fun x=>bif ZcV x.2.2.2.1&& (x.2.2.2.2.1.isEmpty&&x.2.2.2.2.2.1.isEmpty) then Ua (x.1,x.2.1,x.2.2.1,x.2.2.2.1.map (fun _=>[]),[],[]) else Ub
theorem ZtV{a0:El Zh}{f:El Zk}{z:FX}(h:ZbT a0 f=Ua z):Qn.F113 a0 f=Ua z:=by
 unfold ZbT at h;rw[Vd]at h;obtain⟨x,d,a⟩:=h
 cases b:ZcV x.2.2.2.1&& (x.2.2.2.2.1.isEmpty&&x.2.2.2.2.2.1.isEmpty) with
 |false=>rw[b]at a;cases a
 |true=>
 rw[b,Ze,ZB]at a;simp only[Bool.and_eq_true,List.isEmpty_iff,ZcV,Ve]at b;obtain⟨i,j,k⟩:=b
 have key:Tr.untag (tn:=Zh) (tq:=Zk) (lt:=ZC) (lb:=Y94) (x.1,x.2.1,x.2.2.1,x.2.2.2.1,x.2.2.2.2.1,x.2.2.2.2.2.1)=Ua z:=by
  have e:x.2.2.2.1.map (fun _=>([]:List (El Qn.Y91)))=x.2.2.2.1:=by
   conv=>rhs;rw[<-List.map_id x.2.2.2.1]
   exact List.map_congr_left fun r e=>(i r e).symm
  have p:X2 (tn:=Zh) (tq:=Zk) (lt:=ZC) (fun _:El Y94=>0) z:=by subst a;intro y c;simp [JN]at c;obtain⟨l,⟨_,rfl⟩,c⟩:=c;cases c
  rw[<-Tr.untag_eq p];congr 1;subst a;simp only[WF,Vi,List.map_nil];rw[j,k];congr 3;rw[<-e,Vi];congr 1
 unfold Zfa at d;unfold Qn.F113;simp only[Vd]at d⊢;obtain⟨u,m,v,n,y,o,g⟩:=d;simp only[ZB]at g;subst g;exact⟨u,m,v,n,y,o,_,⟨_,key,rfl⟩,rfl⟩
def Zl3:Tr.Spec:= {args:=.cons (.pd Zh) (.cons (.pd Zk) .nil),res:=.cons (.fnd Zh Zk ZC Y94) .nil,fns:=[],α:=FX,f:=fun x=>ZbT x.1 x.2.1,unp:=fun z=>(((),(),()),(z,()))}
theorem ZtY:ZS Tryz.prog 77 Zl3 where
 wf:=rfl
 fn:=Qn.F113_ok.fn
 run:=fun w I a h x z b c d e f g=>Qn.F113_ok.run w I a h x z b c d e f (ZtV g)
def Zl5(a:FX)(b:El (.pn Y94)):Option FX:=F107 a (Vf Vj b)
def Zl6:Tr.Spec:= {args:=.cons (.fnd Zh Zk ZC Y94) (.cons (.pd (.pn Y94)) .nil),res:=.nil,fns:=[],α:=FX,f:=fun x=>Zl5 x.1 x.2.1,unp:=fun z=>((z,(),()),())}
theorem ZmG{w:World}{I:Nat->Prop}{t:Ty}{x:El (.pn t)}{cs:List Value}(h:Rd w I (.pn t) x cs):Rd w I (.pt t) (Vf Vj x) cs:=by
 cases x with
 |none=>exact h
 |some y=>
  obtain⟨cells,e,a,b,c,d⟩:=h;exact⟨y.1,cells,e,a,b,c,d⟩
theorem Zt2:ZS Tryz.prog 81 Zl6 where
 wf:=rfl
 fn:=F107_ok.fn
 run:=by intro w I h C x (z:FX) j k l m n o;obtain⟨x,u,⟨⟩⟩:=x;obtain⟨g,y,v,r,rfl,rfl,s,A,B,f,D,rfl,rfl,⟨⟨rfl,d⟩,b⟩,rfl,rfl⟩:=j;refine(F107_ok.run w I [v,f] (g++[]) (x,Vf Vj u,()) z ⟨g,[],v,[f],rfl,rfl,s,[],[],f,[],rfl,rfl,⟨⟨rfl,ZmG d⟩,.inr (b.resolve_left (by simp))⟩,rfl,rfl⟩ k l m n o).mono ?_;rintro e E ⟨t,rfl,i,p,q,c,a⟩;exact⟨t,rfl,i,p,q,c,a⟩
def M1:List (Nat×List Tr.Spec):=[(77,[Zl3]),(78,[F19S]),(79,[F99S])]
def M2:List (Nat×List Tr.Spec):=[(80,[Qn.F174S]),(81,[Zl6])]
def ZnZ:List (Nat×Ty):=tyTab++[(143,Zcx),(85,H6)]
theorem Zwe:HT Tryz.prog ZnZ mapTab pkTab bdTab=true:=by kernel_rfl
def E1:Ka:=mkE ZnZ mapTab pkTab [94] [46] M1 150 bdTab
def E2:Ka:=mkE Qn.tyTab Qn.mapTab Qn.pkTab [] [] M2 150 Qn.bdTab
theorem Za8:Z3 Tryz.prog E1:=typesOk_of Zwe rfl rfl rfl rfl fun _ h=>absurd (show Ud=Uc from h) (by decide)
theorem ZiZ:Z3 Tryz.prog E2:=typesOk_of Qn.tab_ok rfl rfl rfl rfl fun _ h=>absurd (show Ud=Uc from h) (by decide)
theorem Zox:∀f,∀S∈E1.specs f,ZS Tryz.prog f S:=Zix (m:=M1) ⟨⟨ZtY,trivial⟩,⟨F19_ok,trivial⟩,⟨F99_ok,trivial⟩,trivial⟩ rfl
theorem Zoy:∀f,∀S∈E2.specs f,ZS Tryz.prog f S:=Zix (m:=M2) ⟨⟨Qn.F174_ok,trivial⟩,⟨Zt2,trivial⟩,trivial⟩ rfl
theorem ZnB{m:List (Nat×List Tr.Spec)}(h:(m.all fun p=>p.2.all (·.pl))=Uc){E:Ka}(c:E.specs=fun n=>(m.lookup n).getD []):∀f,∀T∈E.specs f,T.pl=true:=by
 intro g T a;simp only[Ve]at h;rw[c]at a;simp only at a
 cases b:m.lookup g with
 |none=>rw[b]at a;simp at a
 |some l=>rw[b]at a;exact h (g,l) (RU b) T a
def Zg9:Code:=match KX Tryz.f37 with|.seq a _=>a|c=>c
def Zha:Code:=match KX Tryz.f37 with|.seq _ (.seq a _)=>a|c=>c
def Zhb:Code:=match KX Tryz.f37 with|.seq _ (.seq _ (.seq a _))=>a|c=>c
def Zhc:Code:=match KX Tryz.f37 with|.seq _ (.seq _ (.seq _ (.seq a _)))=>a|c=>c
def Zhd:Code:=match KX Tryz.f37 with|.seq _ (.seq _ (.seq _ (.seq _ (.seq a _))))=>a|c=>c
def dpL:Code:=match KX Tryz.f37 with|.seq _ (.seq _ (.seq _ (.seq _ (.seq _ (.seq (.block _ (.loop l)) _)))))=>l|c=>c
def dpZ:Code:=match KX Tryz.f37 with|.seq _ (.seq _ (.seq _ (.seq _ (.seq _ (.seq _ z)))))=>z|c=>c
theorem ZrT:KX Tryz.f37=.seq Zg9 (.seq Zha (.seq Zhb (.seq Zhc (.seq Zhd (.seq (.block 6 (.loop dpL)) dpZ))))):=by kernel_rfl
abbrev Hj:Pats:=.cons (.pd Zh) (.cons (.pd Zk) (.cons (.pd H6) (.cons (.pd Y3) .nil)))
abbrev ZeD:Pats:=.cons (.pd Wm) .nil
def eD:WQ:=⟨[(9,.fnd Zh Zk ZC Y94)],[],[],[],[],[]⟩
abbrev Xh(x:Ks Hj):AS:=⟨(Kc Hj x 0).1.toF,WH (Kc Hj x 0).2.1,(Kc Hj x 0).2.2,[]⟩
def dpH:K3:=(.seq .leaf (.lp ⟨[(9,(.fnd Zh Zk ZC Y94)),(33,(.pd Y3))],[],[3,4,5,10,31,32],[],[],[]⟩ [((.exit 0),⟨[(9,(.fnd Zh Zk ZC Y94))],[],[],[],[],[]⟩)] (.seq .leaf (.seq .leaf (.seq (.seq .leaf (.seq .leaf (.seq (.seq .leaf (.cnd (Ua (⟨[],[],[3,4,5,10,13,31,32,33],[],[],[]⟩,[(.normal,⟨[(9,(.fnd Zh Zk ZC Y94)),(14,(.pd (.pt Y94)))],[],[3,4,5,10,13,31,32,33],[],[],[]⟩)])) .leaf .leaf)) (.seq .leaf (.lp ⟨[(9,(.fnd Zh Zk ZC Y94)),(72,(.pd Y3))],[],[3,4,5,10,13,14,31,32,33,70,71],[],[],[]⟩ [((.exit 2),⟨[(9,(.fnd Zh Zk ZC Y94))],[],[3,4,5,10,31,32,33],[],[],[]⟩)] (.seq .leaf (.seq .leaf (.seq (.seq .leaf (.seq .leaf (.lp ⟨[(9,(.fnd Zh Zk ZC Y94)),(80,(.pd Y3))],[],[3,4,5,10,13,14,15,31,32,33,70,71,72,78,79],[],[],[]⟩ [((.exit 4),⟨[(9,(.fnd Zh Zk ZC Y94))],[],[3,4,5,10,13,14,31,32,33,70,71,72],[],[],[]⟩)] (.seq .leaf (.seq .leaf (.seq (.seq .leaf (.seq (.reg [(102,Y4)]) .leaf)) .leaf)))))) .leaf)))))))) .leaf)))))
def Zhf(x:Ks Hj):Option (FX ⊕ El Wm):=
 Kp Zg9 .leaf E1 (FX ⊕ El Wm) (Xh x) fun e s=>match e with
 |.normal=>Kp Zha .leaf E1 (FX ⊕ El Wm) s fun e s=>match e with
  |.normal=>Kp Zhb .leaf E1 (FX ⊕ El Wm) s fun e s=>match e with
   |.normal=>Kp Zhc .leaf E1 (FX ⊕ El Wm) s fun e s=>match e with
    |.normal=>Kp Zhd dpH E1 (FX ⊕ El Wm) s fun e s=>match e with
     |.normal=>(XR (Xh x) [] eD s).bind fun x=>Ua (.inl x)
     |_=>Ub
    |.ret=>(Yq E1 Tryz.f37.results Hj ZeD [] .ret s).bind fun y=>Ua (.inr y.2.1)
    |_=>Ub
   |_=>Ub
  |_=>Ub
 |_=>Ub
abbrev fP:Pat:=Yb Zh Zk ZC Y94
def dpO(y:K2 fP):AS:=⟨fun t=>bif Nat.beq t 9 then(inj fP y 1).1 else .junk,WH (inj fP y 1).2.1,(inj fP y 1).2.2,[]⟩
def e8:WQ:=⟨[(8,.own Qn.Y91 Ud)],[],[],[],[],[]⟩
def ZkF(y:K2 fP):Option (FX ⊕ List (El Qn.Y91)):=
 Kp dpL .leaf E2 (FX ⊕ List (El Qn.Y91)) (dpO y) fun e s=>match e with
 |.normal=>(XR (dpO y) [] eD s).bind fun x=>Ua (.inl x)
 |.exit 6=>Kp dpZ .leaf E2 (FX ⊕ List (El Qn.Y91)) s fun e s=>match e with
   |.ret=>(XR (dpO y) [] e8 s).bind fun l=>Ua (.inr l)
   |_=>Ub
 |_=>Ub
def ZeE:El Zh->El Zk->El H6->El Y3->Option (FX ⊕ El Wm):=fun n q ws at' =>
 Va (ZbT n q) fun p=>
 Va (F19 n.2.2.2.2.2.1) fun f=>
 bif !Ue (f.2=(0:Int)) then Ua (.inr [])
 else
 Va
 (run
 (fun c=>
 bif Ue (c.2<(↑(Vb ws):Int)) then
 Va (idx ws c.2) fun a=>
 Va
 (bif Ue ((0:Int)<a.2.1) then
 Ua
 (c.1,
 Ua
 (a.1,Vc .i64 (at' +a.2.1),Vc .i64 (at' +a.2.1),(0:Int),a.2.1,Ud,f.1,
 [(Ud,(0:Int),(0:Int),(0:Int),q.1,a.1,at',Vc .i64 (at' +a.2.1),Ud,())],()))
 else
 Ua
 (c.1,
 Ua
 (a.1,Vc .i64 (at' +a.2.1),Vc .i64 (at' +a.2.1),(0:Int),a.2.1,Ud,f.1,
 ([]:List (El KZ)),())))
 fun e=>
 Va
 (run
 (fun d=>
 bif Ue (d.2<(↑(Vb n.2.2.1):Int)) then
 Va (idx n.2.2.1 d.2) fun o=>
 Va
 (run
 (fun b=>
 bif Ue (b.2<(↑(Vb o.2.2.2.2.2.2.2.1):Int)) then
 Va (idx o.2.2.2.2.2.2.2.1 b.2) fun m=>
 Va
 (bif Ue (m.1=a.1) then
 bif m.2.2.2.1 then Va e.2 fun _=>Va e.2 fun g=>Ua (Ue (m.2.2.1=g.2.2.1))
 else Ua Ud
 else Ua Ud)
 fun h=>
 bif h then
 Va (F99 b.1 e.2 d.2 b.2) fun i=>Ua (.inl (i,Vc .i64 (b.2+(1:Int))))
 else Ua (.inl (b.1,Vc .i64 (b.2+(1:Int))))
 else Ua (.inr b.1))
 (d.1,(0:Int)))
 fun j=>Ua (.inl (j,Vc .i64 (d.2+(1:Int))))
 else Ua (.inr d.1))
 (e.1,(0:Int)))
 fun k=>Ua (.inl (k,Vc .i64 (c.2+(1:Int))))
 else Ua (.inr c.1))
 (p,(0:Int)))
 fun l=>Ua (.inl l)
theorem ZrS(n:El Zh)(q:El Zk)(ws:El H6)(d:El Y3):Zhf (n,q,ws,d,())=ZeE n q ws d:=by kernel_rfl
def Zhe(y:K2 fP):Option (FX ⊕ List (El Qn.Y91)):=
 bif Ue ((0:Int)<(↑(Vb y.2.2.2.2.1):Int)) then
 Va (Zs (0:Int) (Vb y.2.2.2.2.1)) fun g=>
 Va y.2.2.2.2.1[g]? fun b=>
 Va (sliceB (Vb y.2.2.2.2.1) (Vb y.2.2.2.2.1) (Ua (1:Int)) Ub) fun a=>
 Va b fun _=>
 Va b fun h=>
 Va (Zs h.2.1 (Vb y.2.2.2.1)) fun f=>
 Va y.2.2.2.1[f]? fun _=>
 Va (idx y.2.2.2.1 (↑f:Int)) fun i=>
 Va (Qn.F174 i b) fun j=>
 bif j then
 Va (Tr.untag (y.1,y.2.1,y.2.2.1,y.2.2.2.1,List.take (a.2 - a.1) (List.drop a.1 y.2.2.2.2.1),y.2.2.2.2.2.1))
 fun k=>Va (Zl5 k b) fun c=>Ua (.inl c)
 else
 Va
 (Va (Tr.untag (y.1,y.2.1,y.2.2.1,y.2.2.2.1,List.take (a.2 - a.1) (List.drop a.1 y.2.2.2.2.1),y.2.2.2.2.2.1))
 fun d=>Ua d)
 fun e=>Ua (.inl e)
 else Ua (.inr y.2.2.2.2.2.1)
theorem ZrQ(y:K2 fP):ZkF y=Zhe y:=by kernel_rfl
end
end Q
