/- profile's departing as pieces: the way to its last loop, a round of that loop, and what they compute. Conditions: none. -/
import Derived.Test.YtdpenljjnfmgiaaGreatFin45pa
open Int renaming toNat ->Vh
open Go.IntKind renaming wrap ->Vc
open List renaming length ->Vb,all_eq_true ->Ve,replicate ->Vg,map_map ->Vi
open Option renaming bind ->Va,bind_eq_some_iff ->Vd,map ->Vf
open Prod renaming snd ->Vj
open Option renaming some ->Ua,none ->Ub
open Bool renaming true ->Uc,false ->Ud
open Decidable renaming decide ->Ue
namespace Q
open Tr Go Go.Proofs
noncomputable section
abbrev Zdu:Ty:=.prod Y3 (.prod Y3 .unit)
abbrev GR:Ty:=.sl Zdu
abbrev FX:=ZS Zd Zk ZG Y94
def Zgu(b:El Zd)(h:El Zk):Option (El Zd×El Zk×List (List Int)×List (List (El Qn.Y91))×List (El Qn.Y91)×List (El Qn.Y91)×Unit):=
 Va
 (Zw
 (decide
 ((0:El (Tr.Ty.int .i64))<=(↑(Vb b.2.2.1):Int)/\
 (↑(Vb b.2.2.1))<=(↑(Vb b.2.2.1):Int)/\(↑(Vb b.2.2.1):Int)<=(↑Zt:El (Tr.Ty.int .i64)))))
 λ_=>
 Va
 (Zw
 (decide
 ((0:El (Tr.Ty.int .i64))<=(↑(Vb b.1):Int)/\
 (↑(Vb b.1))<=(↑(Vb b.1):Int)/\(↑(Vb b.1):Int)<=(↑Zt:El (Tr.Ty.int .i64)))))
 λ_=>
 Va
 (run
 (λa=>
 bif Ue (a.2<(↑(Vb b.2.2.2.1))) then
 Va (idx b.2.2.2.1 a.2) λf=>
 Va (Zo f.1 (Vb a.1.2.2.1)) λd=>
 Va a.1.2.2.1[d]? λ_=>
 Va (idx a.1.2.2.1 ↑d) λg=>
 Va (Zw (Ue (Vb g+Vb [a.2]<=Zt))) λ_=>
 Va (Zo f.1 (Vb a.1.2.2.1)) λe=>
 Va (Zw (ZaS (Ua (Vh ↑d)) e)) λ_=>
 Va a.1.2.2.1[e]? λ_=>
 Ua
 (.inl
 ((a.1.1,a.1.2.1,List.set a.1.2.2.1 e (g++[a.2]),a.1.2.2.2.1,a.1.2.2.2.2.1,a.1.2.2.2.2.2.1,
 ()),
 Vc .i64 (a.2+1)))
 else Ua (.inr a.1))
 ((b,h,Vg (Vh (↑(Vb b.2.2.1))) [],Vg (Vh (↑(Vb b.1))) [],[],[],()),0))
 λc=>Ua c
def ZdR(l:List (List (El Qn.Y91))):Bool:=l.all λr=>r.isEmpty
def ZcR(a:El Zd)(b:El Zk):Option FX:=(Zgu a b).bind λx=>bif ZdR x.2.2.2.1&&(x.2.2.2.2.1.isEmpty&&x.2.2.2.2.2.1.isEmpty) then Ua (x.1,x.2.1,x.2.2.1,x.2.2.2.1.map λ_=>[],[],[]) else Ub
theorem ZwR{f g z}(h:ZcR f g=Ua z):Qn.F113 f g=Ua z:=by
 unfold ZcR at h;rw[Vd]at h;have⟨x,d,a⟩:=h
 cases b:ZdR x.2.2.2.1&&(x.2.2.2.2.1.isEmpty&&x.2.2.2.2.2.1.isEmpty) with
 |false=>rw[b]at a;cases a
 |true=>
 rw[b,Zf,Z4]at a;simp[Bool.and_eq_true,List.isEmpty_iff,ZdR,Ve]at b;have⟨j,k,m⟩:=b;have key:Tr.untag (tn:=Zd) (tq:=Zk) (lt:=ZG) (lb:=Y94) (x.1,x.2.1,x.2.2.1,x.2.2.2.1,x.2.2.2.2.1,x.2.2.2.2.2.1)=Ua z:=by
  have e:x.2.2.2.1.map (λ_=>([]:List (El Qn.Y91)))=x.2.2.2.1:=by
   conv=>rhs;rw[<-List.map_id x.2.2.2.1]
   exact List.map_congr_left λr e=>(j r e).symm
  have q:Yl (tn:=Zd) (tq:=Zk) (lt:=ZG) (λ_=>0) z:=by subst a;intro y c;simp[JS]at c;obtain⟨l,⟨_,rfl⟩,c⟩:=c;cases c
  rw[<-Tr.untag_eq q];congr 1;subst a;simp only[WG,Vi,List.map_nil];rw[k,m];congr 3;rw[<-e,Vi];congr 1
 unfold Zgu at d;unfold Qn.F113;simp only[Vd]at d⊢;have⟨u,n,v,o,y,p,i⟩:=d;simp only[Z4]at i;subst i;exact⟨u,n,v,o,y,p,_,⟨_,key,rfl⟩,rfl⟩
def Zom:Tr.Spec:={args:=.cons (.pd Zd) (.cons (.pd Zk) .nil),res:=.cons (.fnd Zd Zk ZG Y94) .nil,fns:=[],α:=FX,f:=λx=>ZcR x.1 x.2.1,unp:=λz=>(((),(),()),(z,()))}
theorem ZwU:ZR Tryz.prog 77 Zom where
 wf:=rfl
 fn:=Qn.F113_ok.fn
 run:=λw I a h x z b c d e f g=>Qn.F113_ok.run w I a h x z b c d e f (ZwR g)
def Zop(a:FX)(b:El (.pn Y94)):Option FX:=F107 a (Vf Vj b)
def Zoq:Tr.Spec:={args:=.cons (.fnd Zd Zk ZG Y94) (.cons (.pd (.pn Y94)) .nil),res:=.nil,fns:=[],α:=FX,f:=λx=>Zop x.1 x.2.1,unp:=λz=>((z,(),()),())}
theorem Zo7{w I t x cs}(h:Rd w I (.pn t) x cs):Rd w I (.pt t) (Vf Vj x) cs:=by
 cases x with
 |none=>exact h
 |some y=>
  have⟨cells,e,a,b,c,d⟩:=h;exact⟨y.1,cells,e,a,b,c,d⟩
theorem ZwZ:ZR Tryz.prog 81 Zoq where
 wf:=rfl
 fn:=F107_ok.fn
 run:=by intro w I h C x z j k l m n o;have⟨x,u,⟨⟩⟩:=x;obtain⟨g,y,v,r,rfl,rfl,s,A,B,f,D,rfl,rfl,⟨⟨rfl,d⟩,b⟩,rfl,rfl⟩:=j;refine(F107_ok.run w I [v,f] (g++[]) (x,Vf Vj u,()) z ⟨g,[],v,[f],rfl,rfl,s,[],[],f,[],rfl,rfl,⟨⟨rfl,Zo7 d⟩,.inr (b.resolve_left (by simp))⟩,rfl,rfl⟩ k l m n o).mono ?_;rintro e E ⟨t,rfl,i,p,q,c,a⟩;exact⟨t,rfl,i,p,q,c,a⟩
def M1:List (Nat×List Tr.Spec):=[(77,[Zom]),(78,[F19S]),(79,[F99S])]
def M2:List (Nat×List Tr.Spec):=[(80,[Qn.F190S]),(81,[Zoq])]
def ZqE:List (Nat×Ty):=tyTab++[(143,Zdu),(85,GR)]
theorem Zzp:DW Tryz.prog ZqE mapTab pkTab bdTab=true:=by kernel_rfl
def E1:Kh:=mkE ZqE mapTab pkTab [94] [46] M1 150 bdTab
def E2:Kh:=mkE Qn.tyTab Qn.mapTab Qn.pkTab [] [] M2 150 Qn.bdTab
theorem Zb7:Z0 Tryz.prog E1:=typesOk_of Zzp rfl rfl rfl rfl λ_ h=>absurd (show Ud=Uc from h) (by decide)
theorem Zk1:Z0 Tryz.prog E2:=typesOk_of Qn.tab_ok rfl rfl rfl rfl λ_ h=>absurd (show Ud=Uc from h) (by decide)
theorem Zrg:∀f,∀S∈E1.specs f,ZR Tryz.prog f S:=Zkq (m:=M1) ⟨⟨ZwU,trivial⟩,⟨F19_ok,trivial⟩,⟨F99_ok,trivial⟩,trivial⟩ rfl
theorem Zrh:∀f,∀S∈E2.specs f,ZR Tryz.prog f S:=Zkq (m:=M2) ⟨⟨Qn.F190_ok,trivial⟩,⟨ZwZ,trivial⟩,trivial⟩ rfl
theorem Zqi{m:List (Nat×List Tr.Spec)}(h:(m.all λp=>p.2.all (·.pl))=Uc){E:Kh}(c:E.specs=λn=>(m.lookup n).getD []):∀f,∀T∈E.specs f,T.pl=true:=by
 intro g T a;simp only[Ve]at h;rw[c]at a;simp at a
 cases b:m.lookup g with
 |none=>rw[b]at a;simp at a
 |some l=>rw[b]at a;exact h (g,l) (Za0 b) T a
def ZmE:Code:=match Wh Tryz.f37 with|.seq a _=>a|c=>c
def ZmF:Code:=match Wh Tryz.f37 with|.seq _ (.seq a _)=>a|c=>c
def ZmG:Code:=match Wh Tryz.f37 with|.seq _ (.seq _ (.seq a _))=>a|c=>c
def ZmH:Code:=match Wh Tryz.f37 with|.seq _ (.seq _ (.seq _ (.seq a _)))=>a|c=>c
def ZmI:Code:=match Wh Tryz.f37 with|.seq _ (.seq _ (.seq _ (.seq _ (.seq a _))))=>a|c=>c
def dpL:Code:=match Wh Tryz.f37 with|.seq _ (.seq _ (.seq _ (.seq _ (.seq _ (.seq (.block _ (.loop l)) _)))))=>l|c=>c
def dpZ:Code:=match Wh Tryz.f37 with|.seq _ (.seq _ (.seq _ (.seq _ (.seq _ (.seq _ z)))))=>z|c=>c
abbrev HL:Pats:=.cons (.pd Zd) (.cons (.pd Zk) (.cons (.pd GR) (.cons (.pd Y3) .nil)))
abbrev ZfM:Pats:=.cons (.pd Wq) .nil
def eD:XZ:=⟨[(9,.fnd Zd Zk ZG Y94)],[],[],[],[],[]⟩
abbrev X8(x:KX HL):AS:=⟨(Z5 HL x 0).1.toF,WM (Z5 HL x 0).2.1,(Z5 HL x 0).2.2,[]⟩
def dpH:Wf:=(.seq .leaf (.lp ⟨[(9,(.fnd Zd Zk ZG Y94)),(33,(.pd Y3))],[],[3,4,5,10,31,32],[],[],[]⟩ [((.exit 0),⟨[(9,(.fnd Zd Zk ZG Y94))],[],[],[],[],[]⟩)] (.seq .leaf (.seq .leaf (.seq (.seq .leaf (.seq .leaf (.seq (.seq .leaf (.cnd (Ua (⟨[],[],[3,4,5,10,13,31,32,33],[],[],[]⟩,[(.normal,⟨[(9,(.fnd Zd Zk ZG Y94)),(14,(.pd (.pt Y94)))],[],[3,4,5,10,13,31,32,33],[],[],[]⟩)])) .leaf .leaf)) (.seq .leaf (.lp ⟨[(9,(.fnd Zd Zk ZG Y94)),(72,(.pd Y3))],[],[3,4,5,10,13,14,31,32,33,70,71],[],[],[]⟩ [((.exit 2),⟨[(9,(.fnd Zd Zk ZG Y94))],[],[3,4,5,10,31,32,33],[],[],[]⟩)] (.seq .leaf (.seq .leaf (.seq (.seq .leaf (.seq .leaf (.lp ⟨[(9,(.fnd Zd Zk ZG Y94)),(80,(.pd Y3))],[],[3,4,5,10,13,14,15,31,32,33,70,71,72,78,79],[],[],[]⟩ [((.exit 4),⟨[(9,(.fnd Zd Zk ZG Y94))],[],[3,4,5,10,13,14,31,32,33,70,71,72],[],[],[]⟩)] (.seq .leaf (.seq .leaf (.seq (.seq .leaf (.seq (.reg [(102,Y4)]) .leaf)) .leaf)))))) .leaf)))))))) .leaf)))))
def ZmL(x:KX HL):Option (FX ⊕ El Wq):=
 Kr ZmE .leaf E1 (FX ⊕ El Wq) (X8 x) λe s=>match e with
 |.normal=>Kr ZmF .leaf E1 (FX ⊕ El Wq) s λe s=>match e with
  |.normal=>Kr ZmG .leaf E1 (FX ⊕ El Wq) s λe s=>match e with
   |.normal=>Kr ZmH .leaf E1 (FX ⊕ El Wq) s λe s=>match e with
    |.normal=>Kr ZmI dpH E1 (FX ⊕ El Wq) s λe s=>match e with
     |.normal=>(Yb (X8 x) [] eD s).bind λx=>Ua (.inl x)
     |_=>Ub
    |.ret=>(YO E1 Tryz.f37.results HL ZfM [] .ret s).bind λy=>Ua (.inr y.2.1)
    |_=>Ub
   |_=>Ub
  |_=>Ub
 |_=>Ub
abbrev fP:Pat:=Hn Zd Zk ZG Y94
def dpO(y:WH fP):AS:=⟨λt=>bif Nat.beq t 9 then(inj fP y 1).1 else .junk,WM (inj fP y 1).2.1,(inj fP y 1).2.2,[]⟩
def e8:XZ:=⟨[(8,.own Qn.Y91 Ud)],[],[],[],[],[]⟩
def ZmK(y:WH fP):Option (FX ⊕ List (El Qn.Y91)):=
 Kr dpL .leaf E2 (FX ⊕ List (El Qn.Y91)) (dpO y) λe s=>match e with
 |.normal=>(Yb (dpO y) [] eD s).bind λx=>Ua (.inl x)
 |.exit 6=>Kr dpZ .leaf E2 (FX ⊕ List (El Qn.Y91)) s λe s=>match e with
   |.ret=>(Yb (dpO y) [] e8 s).bind λl=>Ua (.inr l)
   |_=>Ub
 |_=>Ub
def ZfN:El Zd->El Zk->El GR->El Y3->Option (FX ⊕ El Wq):=λn q ws at' =>
 Va (ZcR n q) λp=>
 Va (F19 n.2.2.2.2.2.1) λf=>
 bif !Ue (f.2=(0:Int)) then Ua (.inr [])
 else
 Va
 (run
 (λc=>
 bif Ue (c.2<(↑(Vb ws))) then
 Va (idx ws c.2) λa=>
 Va
 (bif Ue ((0:Int)<a.2.1) then
 Ua
 (c.1,
 Ua
 (a.1,Vc .i64 (at' +a.2.1),Vc .i64 (at' +a.2.1),0,a.2.1,Ud,f.1,
 [(Ud,(0:Int),(0:Int),(0:Int),q.1,a.1,at',Vc .i64 (at' +a.2.1),Ud,())],()))
 else
 Ua
 (c.1,
 Ua
 (a.1,Vc .i64 (at' +a.2.1),Vc .i64 (at' +a.2.1),(0:Int),a.2.1,Ud,f.1,
 ([]:List (El Ki)),())))
 λe=>
 Va
 (run
 (λd=>
 bif Ue (d.2<(↑(Vb n.2.2.1))) then
 Va (idx n.2.2.1 d.2) λo=>
 Va
 (run
 (λb=>
 bif Ue (b.2<(↑(Vb o.2.2.2.2.2.2.2.1))) then
 Va (idx o.2.2.2.2.2.2.2.1 b.2) λm=>
 Va
 (bif Ue (m.1=a.1) then
 bif m.2.2.2.1 then Va e.2 λ_=>Va e.2 λg=>Ua (Ue (m.2.2.1=g.2.2.1))
 else Ua Ud
 else Ua Ud)
 λh=>
 bif h then
 Va (F99 b.1 e.2 d.2 b.2) λi=>Ua (.inl (i,Vc .i64 (b.2+1)))
 else Ua (.inl (b.1,Vc .i64 (b.2+1)))
 else Ua (.inr b.1))
 (d.1,0))
 λj=>Ua (.inl (j,Vc .i64 (d.2+1)))
 else Ua (.inr d.1))
 (e.1,0))
 λk=>Ua (.inl (k,Vc .i64 (c.2+1)))
 else Ua (.inr c.1))
 (p,0))
 λl=>Ua (.inl l)
theorem ZuJ(n:El Zd)(q:El Zk)(ws:El GR)(d:El Y3):ZmL (n,q,ws,d,())=ZfN n q ws d:=by kernel_rfl
def ZiP(y:WH fP):Option (FX ⊕ List (El Qn.Y91)):=
 bif Ue (0<(↑(Vb y.2.2.2.2.1):Int)) then
 Va (Zo 0 (Vb y.2.2.2.2.1)) λg=>
 Va y.2.2.2.2.1[g]? λb=>
 Va (sliceB (Vb y.2.2.2.2.1) (Vb y.2.2.2.2.1) (Ua 1) Ub) λa=>
 Va b λ_=>
 Va b λh=>
 Va (Zo h.2.1 (Vb y.2.2.2.1)) λf=>
 Va y.2.2.2.1[f]? λ_=>
 Va (idx y.2.2.2.1 ↑f) λi=>
 Va (Qn.F190 i b) λj=>
 bif j then
 Va (Tr.untag (y.1,y.2.1,y.2.2.1,y.2.2.2.1,List.take (a.2 - a.1) (List.drop a.1 y.2.2.2.2.1),y.2.2.2.2.2.1))
 λk=>Va (Zop k b) λc=>Ua (.inl c)
 else
 Va
 (Va (Tr.untag (y.1,y.2.1,y.2.2.1,y.2.2.2.1,List.take (a.2 - a.1) (List.drop a.1 y.2.2.2.2.1),y.2.2.2.2.2.1))
 λd=>Ua d)
 λe=>Ua (.inl e)
 else Ua (.inr y.2.2.2.2.2.1)
theorem ZuH y:ZmK y=ZiP y:=by kernel_rfl
end
end Q
