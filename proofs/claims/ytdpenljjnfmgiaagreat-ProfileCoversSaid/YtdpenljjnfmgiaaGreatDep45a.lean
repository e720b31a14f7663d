/- profile's departing as pieces: the way to its last loop, a round of that loop, and what they compute. Conditions: none. -/
import Derived.Test.YtdpenljjnfmgiaaGreatFin45pa
import Derived.Test.YtdpenljjnfmgiaaGreatETsB
import Derived.Test.YtdpenljjnfmgiaaGreatETsF
open Int renaming toNat ->Vh
open Go.IntKind renaming wrap ->Vc
open List renaming length ->Vb,all_eq_true ->Ve,replicate ->Vg,map_map ->Vi
open Option renaming bind ->Va,bind_eq_some_iff ->Vd,map ->Vf
open Prod renaming snd ->Vj
open Option renaming some ->Ua,none ->Ub
open Bool renaming true ->Uc,false ->Ud
open Decidable renaming decide ->Ue
namespace Q
open Tr Go Go.Proofs
noncomputable section
abbrev Zcw:Ty:=.prod Y3 (.prod Y3 .unit)
abbrev Gn:Ty:=.sl Zcw
abbrev FX:=ZQ Zh Zk ZB Y94
def Zfk(b:El Zh)(h:El Zk):Option (El Zh×El Zk×List (List Int)×List (List (El Qn.Y91))×List (El Qn.Y91)×List (El Qn.Y91)×Unit):=
 Va
 (ZD
 (decide
 ((0:El (Tr.Ty.int .i64))<=(↑(Vb b.2.2.1):Int)/\
 (↑(Vb b.2.2.1):Int)<=(↑(Vb b.2.2.1):Int)/\(↑(Vb b.2.2.1):Int)<=(↑ZI:El (Tr.Ty.int .i64)))))
 λ_=>
 Va
 (ZD
 (decide
 ((0:El (Tr.Ty.int .i64))<=(↑(Vb b.1):Int)/\
 (↑(Vb b.1):Int)<=(↑(Vb b.1):Int)/\(↑(Vb b.1):Int)<=(↑ZI:El (Tr.Ty.int .i64)))))
 λ_=>
 Va
 (run
 (λa=>
 bif Ue (a.2<(↑(Vb b.2.2.2.1):Int)) then
 Va (idx b.2.2.2.1 a.2) λf=>
 Va (Zv f.1 (Vb a.1.2.2.1)) λd=>
 Va a.1.2.2.1[d]? λ_=>
 Va (idx a.1.2.2.1 (↑d:Int)) λg=>
 Va (ZD (Ue (Vb g+Vb [a.2]<=ZI))) λ_=>
 Va (Zv f.1 (Vb a.1.2.2.1)) λe=>
 Va (ZD (RW (Ua (Vh (↑d:Int))) e)) λ_=>
 Va a.1.2.2.1[e]? λ_=>
 Ua
 (.inl
 ((a.1.1,a.1.2.1,List.set a.1.2.2.1 e (g++[a.2]),a.1.2.2.2.1,a.1.2.2.2.2.1,a.1.2.2.2.2.2.1,
 ()),
 Vc .i64 (a.2+(1:Int))))
 else Ua (.inr a.1))
 ((b,h,Vg (Vh (↑(Vb b.2.2.1):Int)) [],Vg (Vh (↑(Vb b.1):Int)) [],[],[],()),(0:Int)))
 λc=>Ua c
def ZcU(l:List (List (El Qn.Y91))):Bool:=l.all λr=>r.isEmpty
def ZbR(a:El Zh)(b:El Zk):Option FX:=(Zfk a b).bind λx=>bif ZcU x.2.2.2.1&&(x.2.2.2.2.1.isEmpty&&x.2.2.2.2.2.1.isEmpty) then Ua (x.1,x.2.1,x.2.2.1,x.2.2.2.1.map (λ_=>[]),[],[]) else Ub
theorem ZuD{a0:El Zh}{f:El Zk}{z:FX}(h:ZbR a0 f=Ua z):Qn.F112 a0 f=Ua z:=by
 unfold ZbR at h;rw[Vd]at h;obtain⟨x,d,a⟩:=h
 cases b:ZcU x.2.2.2.1&&(x.2.2.2.2.1.isEmpty&&x.2.2.2.2.2.1.isEmpty) with
 |false=>rw[b]at a;cases a
 |true=>
 rw[b,Zd,ZL]at a;simp only[Bool.and_eq_true,List.isEmpty_iff,ZcU,Ve]at b;obtain⟨i,j,k⟩:=b;have key:Tr.untag (tn:=Zh) (tq:=Zk) (lt:=ZB) (lb:=Y94) (x.1,x.2.1,x.2.2.1,x.2.2.2.1,x.2.2.2.2.1,x.2.2.2.2.2.1)=Ua z:=by
  have e:x.2.2.2.1.map (λ_=>([]:List (El Qn.Y91)))=x.2.2.2.1:=by
   conv=>rhs;rw[<-List.map_id x.2.2.2.1]
   exact List.map_congr_left λr e=>(i r e).symm
  have p:X6 (tn:=Zh) (tq:=Zk) (lt:=ZB) (λ_:El Y94=>0) z:=by subst a;intro y c;simp [JO]at c;obtain⟨l,⟨_,rfl⟩,c⟩:=c;cases c
  rw[<-Tr.untag_eq p];congr 1;subst a;simp only[WH,Vi,List.map_nil];rw[j,k];congr 3;rw[<-e,Vi];congr 1
 unfold Zfk at d;unfold Qn.F112;simp only[Vd]at d⊢;obtain⟨u,m,v,n,y,o,g⟩:=d;simp only[ZL]at g;subst g;exact⟨u,m,v,n,y,o,_,⟨_,key,rfl⟩,rfl⟩
def Zmu:Tr.Spec:={args:=.cons (.pd Zh) (.cons (.pd Zk) .nil),res:=.cons (.fnd Zh Zk ZB Y94) .nil,fns:=[],α:=FX,f:=λx=>ZbR x.1 x.2.1,unp:=λz=>(((),(),()),(z,()))}
theorem ZuG:ZT Tryz.prog 77 Zmu where
 wf:=rfl
 fn:=Qn.F112_ok.fn
 run:=λw I a h x z b c d e f g=>Qn.F112_ok.run w I a h x z b c d e f (ZuD g)
def Zmw(a:FX)(b:El (.pn Y94)):Option FX:=F106 a (Vf Vj b)
def Zmx:Tr.Spec:={args:=.cons (.fnd Zh Zk ZB Y94) (.cons (.pd (.pn Y94)) .nil),res:=.nil,fns:=[],α:=FX,f:=λx=>Zmw x.1 x.2.1,unp:=λz=>((z,(),()),())}
theorem Zne{w:World}{I:Nat->Prop}{t:Ty}{x:El (.pn t)}{cs:List Value}(h:Rd w I (.pn t) x cs):Rd w I (.pt t) (Vf Vj x) cs:=by
 cases x with
 |none=>exact h
 |some y=>
  obtain⟨cells,e,a,b,c,d⟩:=h;exact⟨y.1,cells,e,a,b,c,d⟩
theorem ZuK:ZT Tryz.prog 81 Zmx where
 wf:=rfl
 fn:=F106_ok.fn
 run:=by intro w I h C x (z:FX) j k l m n o;obtain⟨x,u,⟨⟩⟩:=x;obtain⟨g,y,v,r,rfl,rfl,s,A,B,f,D,rfl,rfl,⟨⟨rfl,d⟩,b⟩,rfl,rfl⟩:=j;refine(F106_ok.run w I [v,f] (g++[]) (x,Vf Vj u,()) z ⟨g,[],v,[f],rfl,rfl,s,[],[],f,[],rfl,rfl,⟨⟨rfl,Zne d⟩,.inr (b.resolve_left (by simp))⟩,rfl,rfl⟩ k l m n o).mono ?_;rintro e E ⟨t,rfl,i,p,q,c,a⟩;exact⟨t,rfl,i,p,q,c,a⟩
def M1:List (Nat×List Tr.Spec):=[(77,[Zmu]),(78,[F19S]),(79,[F98S])]
def M2:List (Nat×List Tr.Spec):=[(80,[Qn.F173S]),(81,[Zmx])]
def ZoD:List (Nat×Ty):=tyTab++[(143,Zcw),(85,Gn)]
theorem ZwW:H6 Tryz.prog ZoD mapTab pkTab bdTab=true:=by kernel_rfl
def E1:Z9:=mkE ZoD mapTab pkTab [94] [46] M1 150 bdTab
def E2:Z9:=mkE Qn.tyTab Qn.mapTab Qn.pkTab [] [] M2 150 Qn.bdTab
theorem Za8:Z4 Tryz.prog E1:=typesOk_of ZwW rfl rfl rfl rfl λ_ h=>absurd (show Ud=Uc from h) (by decide)
theorem Zjt:Z4 Tryz.prog E2:=typesOk_of Qn.tab_ok rfl rfl rfl rfl λ_ h=>absurd (show Ud=Uc from h) (by decide)
theorem Zo3:∀f,∀S∈E1.specs f,ZT Tryz.prog f S:=ZiY (m:=M1) ⟨⟨ZuG,trivial⟩,⟨F19_ok,trivial⟩,⟨F98_ok,trivial⟩,trivial⟩ rfl
theorem Zo4:∀f,∀S∈E2.specs f,ZT Tryz.prog f S:=ZiY (m:=M2) ⟨⟨Qn.F173_ok,trivial⟩,⟨ZuK,trivial⟩,trivial⟩ rfl
theorem Zoe{m:List (Nat×List Tr.Spec)}(h:(m.all λp=>p.2.all (·.pl))=Uc){E:Z9}(c:E.specs=λn=>(m.lookup n).getD []):∀f,∀T∈E.specs f,T.pl=true:=by
 intro g T a;simp only[Ve]at h;rw[c]at a;simp only at a
 cases b:m.lookup g with
 |none=>rw[b]at a;simp at a
 |some l=>rw[b]at a;exact h (g,l) (RZ b) T a
def Zhp:Code:=match K2 Tryz.f37 with|.seq a _=>a|c=>c
def Zhq:Code:=match K2 Tryz.f37 with|.seq _ (.seq a _)=>a|c=>c
def Zhr:Code:=match K2 Tryz.f37 with|.seq _ (.seq _ (.seq a _))=>a|c=>c
def Zhs:Code:=match K2 Tryz.f37 with|.seq _ (.seq _ (.seq _ (.seq a _)))=>a|c=>c
def Zht:Code:=match K2 Tryz.f37 with|.seq _ (.seq _ (.seq _ (.seq _ (.seq a _))))=>a|c=>c
def dpL:Code:=match K2 Tryz.f37 with|.seq _ (.seq _ (.seq _ (.seq _ (.seq _ (.seq (.block _ (.loop l)) _)))))=>l|c=>c
def dpZ:Code:=match K2 Tryz.f37 with|.seq _ (.seq _ (.seq _ (.seq _ (.seq _ (.seq _ z)))))=>z|c=>c
theorem Zsw:K2 Tryz.f37=.seq Zhp (.seq Zhq (.seq Zhr (.seq Zhs (.seq Zht (.seq (.block 6 (.loop dpL)) dpZ))))):=by kernel_rfl
abbrev Hk:Pats:=.cons (.pd Zh) (.cons (.pd Zk) (.cons (.pd Gn) (.cons (.pd Y3) .nil)))
abbrev ZeK:Pats:=.cons (.pd Wq) .nil
def eD:WZ:=⟨[(9,.fnd Zh Zk ZB Y94)],[],[],[],[],[]⟩
abbrev Xm(x:Kw Hk):AS:=⟨(Kb Hk x 0).1.toF,WM (Kb Hk x 0).2.1,(Kb Hk x 0).2.2,[]⟩
def dpH:K7:=(.seq .leaf (.lp ⟨[(9,(.fnd Zh Zk ZB Y94)),(33,(.pd Y3))],[],[3,4,5,10,31,32],[],[],[]⟩ [((.exit 0),⟨[(9,(.fnd Zh Zk ZB Y94))],[],[],[],[],[]⟩)] (.seq .leaf (.seq .leaf (.seq (.seq .leaf (.seq .leaf (.seq (.seq .leaf (.cnd (Ua (⟨[],[],[3,4,5,10,13,31,32,33],[],[],[]⟩,[(.normal,⟨[(9,(.fnd Zh Zk ZB Y94)),(14,(.pd (.pt Y94)))],[],[3,4,5,10,13,31,32,33],[],[],[]⟩)])) .leaf .leaf)) (.seq .leaf (.lp ⟨[(9,(.fnd Zh Zk ZB Y94)),(72,(.pd Y3))],[],[3,4,5,10,13,14,31,32,33,70,71],[],[],[]⟩ [((.exit 2),⟨[(9,(.fnd Zh Zk ZB Y94))],[],[3,4,5,10,31,32,33],[],[],[]⟩)] (.seq .leaf (.seq .leaf (.seq (.seq .leaf (.seq .leaf (.lp ⟨[(9,(.fnd Zh Zk ZB Y94)),(80,(.pd Y3))],[],[3,4,5,10,13,14,15,31,32,33,70,71,72,78,79],[],[],[]⟩ [((.exit 4),⟨[(9,(.fnd Zh Zk ZB Y94))],[],[3,4,5,10,13,14,31,32,33,70,71,72],[],[],[]⟩)] (.seq .leaf (.seq .leaf (.seq (.seq .leaf (.seq (.reg [(102,Y4)]) .leaf)) .leaf)))))) .leaf)))))))) .leaf)))))
def Zhv(x:Kw Hk):Option (FX ⊕ El Wq):=
 Ko Zhp .leaf E1 (FX ⊕ El Wq) (Xm x) λe s=>match e with
 |.normal=>Ko Zhq .leaf E1 (FX ⊕ El Wq) s λe s=>match e with
  |.normal=>Ko Zhr .leaf E1 (FX ⊕ El Wq) s λe s=>match e with
   |.normal=>Ko Zhs .leaf E1 (FX ⊕ El Wq) s λe s=>match e with
    |.normal=>Ko Zht dpH E1 (FX ⊕ El Wq) s λe s=>match e with
     |.normal=>(XY (Xm x) [] eD s).bind λx=>Ua (.inl x)
     |_=>Ub
    |.ret=>(Ys E1 Tryz.f37.results Hk ZeK [] .ret s).bind λy=>Ua (.inr y.2.1)
    |_=>Ub
   |_=>Ub
  |_=>Ub
 |_=>Ub
abbrev fP:Pat:=Yd Zh Zk ZB Y94
def dpO(y:K6 fP):AS:=⟨λt=>bif Nat.beq t 9 then(inj fP y 1).1 else .junk,WM (inj fP y 1).2.1,(inj fP y 1).2.2,[]⟩
def e8:WZ:=⟨[(8,.own Qn.Y91 Ud)],[],[],[],[],[]⟩
def Zk0(y:K6 fP):Option (FX ⊕ List (El Qn.Y91)):=
 Ko dpL .leaf E2 (FX ⊕ List (El Qn.Y91)) (dpO y) λe s=>match e with
 |.normal=>(XY (dpO y) [] eD s).bind λx=>Ua (.inl x)
 |.exit 6=>Ko dpZ .leaf E2 (FX ⊕ List (El Qn.Y91)) s λe s=>match e with
   |.ret=>(XY (dpO y) [] e8 s).bind λl=>Ua (.inr l)
   |_=>Ub
 |_=>Ub
def ZeL:El Zh->El Zk->El Gn->El Y3->Option (FX ⊕ El Wq):=λn q ws at' =>
 Va (ZbR n q) λp=>
 Va (F19 n.2.2.2.2.2.1) λf=>
 bif !Ue (f.2=(0:Int)) then Ua (.inr [])
 else
 Va
 (run
 (λc=>
 bif Ue (c.2<(↑(Vb ws):Int)) then
 Va (idx ws c.2) λa=>
 Va
 (bif Ue ((0:Int)<a.2.1) then
 Ua
 (c.1,
 Ua
 (a.1,Vc .i64 (at' +a.2.1),Vc .i64 (at' +a.2.1),(0:Int),a.2.1,Ud,f.1,
 [(Ud,(0:Int),(0:Int),(0:Int),q.1,a.1,at',Vc .i64 (at' +a.2.1),Ud,())],()))
 else
 Ua
 (c.1,
 Ua
 (a.1,Vc .i64 (at' +a.2.1),Vc .i64 (at' +a.2.1),(0:Int),a.2.1,Ud,f.1,
 ([]:List (El K3)),())))
 λe=>
 Va
 (run
 (λd=>
 bif Ue (d.2<(↑(Vb n.2.2.1):Int)) then
 Va (idx n.2.2.1 d.2) λo=>
 Va
 (run
 (λb=>
 bif Ue (b.2<(↑(Vb o.2.2.2.2.2.2.2.1):Int)) then
 Va (idx o.2.2.2.2.2.2.2.1 b.2) λm=>
 Va
 (bif Ue (m.1=a.1) then
 bif m.2.2.2.1 then Va e.2 λ_=>Va e.2 λg=>Ua (Ue (m.2.2.1=g.2.2.1))
 else Ua Ud
 else Ua Ud)
 λh=>
 bif h then
 Va (F98 b.1 e.2 d.2 b.2) λi=>Ua (.inl (i,Vc .i64 (b.2+(1:Int))))
 else Ua (.inl (b.1,Vc .i64 (b.2+(1:Int))))
 else Ua (.inr b.1))
 (d.1,(0:Int)))
 λj=>Ua (.inl (j,Vc .i64 (d.2+(1:Int))))
 else Ua (.inr d.1))
 (e.1,(0:Int)))
 λk=>Ua (.inl (k,Vc .i64 (c.2+(1:Int))))
 else Ua (.inr c.1))
 (p,(0:Int)))
 λl=>Ua (.inl l)
theorem Zsv(n:El Zh)(q:El Zk)(ws:El Gn)(d:El Y3):Zhv (n,q,ws,d,())=ZeL n q ws d:=by kernel_rfl
def Zhu(y:K6 fP):Option (FX ⊕ List (El Qn.Y91)):=
 bif Ue ((0:Int)<(↑(Vb y.2.2.2.2.1):Int)) then
 Va (Zv (0:Int) (Vb y.2.2.2.2.1)) λg=>
 Va y.2.2.2.2.1[g]? λb=>
 Va (sliceB (Vb y.2.2.2.2.1) (Vb y.2.2.2.2.1) (Ua (1:Int)) Ub) λa=>
 Va b λ_=>
 Va b λh=>
 Va (Zv h.2.1 (Vb y.2.2.2.1)) λf=>
 Va y.2.2.2.1[f]? λ_=>
 Va (idx y.2.2.2.1 (↑f:Int)) λi=>
 Va (Qn.F173 i b) λj=>
 bif j then
 Va (Tr.untag (y.1,y.2.1,y.2.2.1,y.2.2.2.1,List.take (a.2 - a.1) (List.drop a.1 y.2.2.2.2.1),y.2.2.2.2.2.1))
 λk=>Va (Zmw k b) λc=>Ua (.inl c)
 else
 Va
 (Va (Tr.untag (y.1,y.2.1,y.2.2.1,y.2.2.2.1,List.take (a.2 - a.1) (List.drop a.1 y.2.2.2.2.1),y.2.2.2.2.2.1))
 λd=>Ua d)
 λe=>Ua (.inl e)
 else Ua (.inr y.2.2.2.2.2.1)
theorem Zst(y:K6 fP):Zk0 y=Zhu y:=by kernel_rfl
end
end Q
