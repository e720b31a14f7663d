/- Functions that are run in their place: the machine as reads and patches, and that a call is then a step of the model. Conditions: the table of types is the program's, the specs are true. -/
import Derived.Test.YtdpenljjnfmgiaaGreatTsE
open Array renaming replicate ->Ve
open Bool renaming and_eq_true ->Vd
open List renaming all_eq_true ->Vc
open Nat renaming le_of_ble_eq_true ->Vb,beq ->Vf
open Prod.mk renaming injEq ->Va
namespace Tr
open Go
abbrev BL:=List (Nat×Option Zc0)
def Znd(id:Nat):BL->Option (Option Zc0)
 | []=>none
 |q::l=>bif Vf id q.1 then some q.2 else Znd id l
def ovB(H:AH)(p:BL):AH:=fun id=>match Znd id p with
 |some o=>o
 |none=>H id
theorem Zgx{H:AH} : ∀ (l:ZaY) (p:BL),Zad (ovB H p) l=ovB H (l.reverse++p)
 | [],p=>rfl
 |q::l,p=>by
  have h:Zbl (ovB H p) q.1 q.2=ovB H (q::p):=by
   funext k;simp only[Zbl,ovB,Znd]
   cases Vf k q.1<;>rfl
  simp only[Zad,h,Zgx l (q::p)];simp
theorem Zm8{H:AH}(p:BL):Zad H p.reverse=ovB H p:=by have:=Zgx (H:=H) p.reverse [];rw[show ovB H []=H from rfl,List.reverse_reverse,List.append_nil]at this;exact this
def ovl{α:Type}(p:BL):Acc α->List Nat->Acc (α×List Nat)
 | .ret a,l=> .ret (a,l)
 | .fail,_=> .fail
 | .getH id k,l=>match Znd id p with
  |some o=>ovl p (k o) (id::l)
  |none=> .getH id fun o=>ovl p (k o) (id::l)
 | .opt o k,l=> .opt o fun b=>ovl p (k b) l
 | .bool b k,l=> .bool b fun c=>ovl p (k c) l
theorem ZmZ{α:Type}{H:AH}{p:BL} : ∀ (a:Acc α) (l m:List Nat) {r:α}{l' m' :List Nat},(ovl p a l).run H m=some ((r,l'),m')->a.run (ovB H p) l=some (r,l'):=by
 intro a
 induction a with
 |ret a=>intro l m r l' m' h;simp only[ovl,Zab,Va]at h;simp [Acc.run,h.1.1,h.1.2]
 |fail=>intro l m r l' m' h;simp [ovl,Zaa]at h
 |getH id k ih=>
  intro l m r l' m' h;simp only[ovl]at h;simp only[Acc.run]
  cases hl:Znd id p with
  |some o=>rw[hl]at h;simp only at h;have:=ih _ _ _ h;simpa [ovB,hl] using this
  |none=>rw[hl]at h;simp only[Zag]at h;have:=ih _ _ _ h;simpa [ovB,hl] using this
 |opt o k ih=>
  intro l m r l' m' h;simp only[ovl,Zac]at h;obtain⟨b,rfl,h⟩:=h
  simpa [Acc.run] using ih _ _ _ h
 |bool b k ih=>
  intro l m r l' m' h;simp only[ovl,ZhI]at h;simpa [Acc.run] using ih _ _ _ h
structure AI where
 F:Nat->AV
 p:BL
 nx:Nat
def Zqf(E:Env)(ops:Array Oper)(base:Nat):List (Oper×Nat)->(Nat->AV)->BL->List Trc->Acc ((Nat->AV) ×BL×List Trc)
 | [],F,p,tr=> .ret (F,p,tr)
 | (o,i)::rest,F,p,tr=>match Zbz ops o F with
  |none=> .fail
  |some false=>bif ZdG E o.dst then Zqf E ops base rest (ZeA F o.dst Zez) p tr else .fail
  |some true=>bif ZdG E o.dst then(ovl p (aop E (base+i*E.stp) o.op o.type (aev F)) []).bind fun r=>Zqf E ops base rest (ZeA F o.dst r.1.1) (r.1.2.reverse++p) (⟨i,r.2,r.1.2.map Prod.fst⟩::tr) else .fail
def ZqF(f:AI->Acc (Ex×AI)):Nat->AI->Acc (Ex×AI)
 |0,_=> .fail
 |n+1,s=>(f s).bind fun r=>match r.1 with
  | .normal=>ZqF f n r.2
  |e=> .ret (e,r.2)
def ZcE(E:Env)(n up:Nat):Code->AI->Acc (Ex×AI)
 | .skip,s=> .ret (.normal,s)
 | .label _,s=> .ret (.normal,s)
 | .scope c,s=>(ZcE E n up c s).bind fun r=>match r.1 with
  | .jump _=> .fail
  |e=> .ret (e,r.2)
 | .region _ ops draw,s=>bif Nat.ble (s.nx+ops.size*E.stp) up then(Zqf E ops s.nx ops.toList.zipIdx s.F s.p []).bind fun r=>bif !draw||Zgz ops r.2.2 then .ret (.normal,⟨r.1,r.2.1,s.nx+ops.size*E.stp⟩) else .fail else .fail
 | .seq a b,s=>(ZcE E n up a s).bind fun r=>match r.1 with
  | .normal=>ZcE E n up b r.2
  |e=> .ret (e,r.2)
 | .cond c a b,s=>match aev s.F c with
  | .d .bool t=> .bool t fun t=>bif t then ZcE E n up a s else ZcE E n up b s
  |_=> .fail
 | .block id c,s=>(ZcE E n up c s).bind fun r=>match r.1 with
  | .exit i=>bif Vf i id then .ret (.normal,r.2) else .ret (.exit i,r.2)
  |e=> .ret (e,r.2)
 | .loop c,s=>ZqF (ZcE E n up c) n s
 | .exit id,s=> .ret (.exit id,s)
 | .ret,s=> .ret (.ret,s)
 |_,_=> .fail
def AVs.len:AVs->Nat
 | .nil=>0
 | .cons _ l=>l.len+1
def Zhl:AVs->Bool
 | .nil=>true
 | .cons (.tup _) _=>false
 | .cons _ l=>Zhl l
def Zq8(E:Env)(n m:Nat)(fn:Func)(nid:Nat)(avs:AVs):Acc (AV×ZaY):=
 bif !Nat.ble avs.len fn.ntmps then .fail else(ZcE {E with nt:=fn.ntmps,ks:=[] } n (nid+m) (Zcp fn) ⟨avs.toF,[],nid⟩).bind fun r=>match r.1 with
  | .exit _=> .fail
  | .jump _=> .fail
  |_=>(ovl r.2.p (ZeO E ⟨r.2.F,fun _=>none,0,[]⟩ fn.results.toList) []).bind fun q=>bif Zhl q.1 then .ret (ZnY q.1,r.2.p.reverse) else .fail
section
variable {P:Program}{E:Env}{B:Zbr}{H:AH}
theorem ZiU: ∀l:List Nat,ZcA l []=true
 | []=>rfl
 |n::l=>by simp [ZcA,Zdb,ZiU l]
theorem ZjF{ops:Array Oper}{base:Nat} : ∀ {l:List (Oper×Nat)}{F:Nat->AV}{p:BL}{tr:List Trc}{m:List Nat}{F' :Nat->AV}{p' :BL}{tr' :List Trc}{m' :List Nat},(Zqf E ops base l F p tr).run H m=some ((F',p',tr'),m')->AE E ops base [] l F (ovB H p) tr F' (ovB H p') tr'
 | [],F,p,tr,m,F',p',tr',m',h=>by
  simp only[Zqf,Zab,Va]at h;obtain⟨⟨rfl,rfl,rfl⟩,_⟩:=h
  exact .nil
 | (o,i)::rest,F,p,tr,m,F',p',tr',m',h=>by
  simp only[Zqf]at h;split at h
  ·simp [Zaa]at h
  ·rename_i hw;simp only[Zae,Zaa,and_false,or_false]at h;exact .cons (t:=none) (by simp [ZcS,hw,h.1]) (ZjF h.2)
  ·rename_i hw;simp only[Zae,Zaa,and_false,or_false,Zaj]at h;obtain⟨hd,⟨⟨v,pa⟩,rd⟩,m2,h1,h2⟩:=h;have h3:=ZmZ _ _ _ h1;have h4:=ZjF h2;rw[<-Zgx]at h4;exact .cons (t:=some ⟨i,rd,pa.map Prod.fst⟩) (by simp [ZcS,hw,hd,h3,ZiU]) h4
structure SA (E:Env) (B:Zbr) (H:AH) (up:Nat) (s:AI) (w:World) (g:Gh) (ow:Nat->Nat->Prop) (a:Act):Prop where
 rh:RH B (ovB H s.p) w g ow
 fr:Fr w g s.F a.tmps
 nt:a.tmps.size=E.nt
 df:a.defers=[]
 ids: ∀id,g.K id->id<s.nx\/up<=id
 le:s.nx<=up
theorem Lb.weak{b t b' t' :Nat}{w w' :World}{g g' :Gh}{a a' :Act}(h:Lb E b t w g a w' g' a')(h1:b' <=b)(h2:t<=t'):Lb E b' t' w g a w' g' a' :=
 ⟨h.toLk,fun id hid=>(h.nw id hid).imp (fun h=>h) fun h=>⟨by omega,by omega⟩⟩
theorem ZcN(hm:P.follows .mixedOrders=true)(hT:Zah P E)(hS:Zbg P E B){n lo up:Nat} : ∀ (c:Code) (s:AI) (m:List Nat) (ex:Ex) (s' :AI) (m' :List Nat),(ZcE E n up c s).run H m=some ((ex,s'),m')->lo<=s.nx->
  ∀ {w:World}{g:Gh}{ow:Nat->Nat->Prop}{a:Act},SA E B H up s w g ow a->c.wp P (fun e a' w' =>Zo8 ex=e/\lo<=s'.nx/\ ∃g' ow',SA E B H up s' w' g' ow' a' /\Lb E lo up w g a w' g' a') a w
 | .skip,s,m,ex,s',m',h,hlo,w,g,ow,a,hs=>by
  simp only[ZcE,Zab,Va]at h;obtain⟨⟨rfl,rfl⟩,_⟩:=h
  exact wp_skip ⟨rfl,hlo,g,ow,hs, .refl w g a⟩
 | .label _,s,m,ex,s',m',h,hlo,w,g,ow,a,hs=>by
  simp only[ZcE,Zab,Va]at h;obtain⟨⟨rfl,rfl⟩,_⟩:=h
  exact wp_label ⟨rfl,hlo,g,ow,hs, .refl w g a⟩
 | .scope c,s,m,ex,s',m',h,hlo,w,g,ow,a,hs=>by
  simp only[ZcE,Zaj]at h;obtain⟨⟨e1,s1⟩,m1,h1,h2⟩:=h;refine wp_scope_straight (wp_mono (ZcN hm hT hS c s m e1 s1 m1 h1 hlo hs) ?_);rintro e a' w' ⟨rfl,h3⟩
  cases e1 with
  |jump l=>simp [Zaa]at h2
  |_=>
   simp only[Zab,Va]at h2;obtain⟨⟨rfl,rfl⟩,_⟩:=h2
   exact⟨rfl,h3⟩
 | .region id ops draw,s,m,ex,s',m',h,hlo,w,g,ow,a,hs=>by
  simp only[ZcE,Zae,Zaa,and_false,or_false,Zaj,Zab,Va]at h;obtain⟨hup,⟨F',p',tr'⟩,m1,h1,hd,⟨rfl,rfl⟩,_⟩:=h;have hup:=Vb hup;refine Zfl (U:=fun id=>up<=id) hm hT hS ⟨hs.rh,hs.fr,hs.nt,hs.df,fun id hid=> .inl (hs.ids id hid)⟩ (fun id h=>by omega) (ZjF h1) hd fun a' w' g' ow' hI hl=>⟨rfl,by simp only;omega,g',ow',⟨hI.rh,hI.fr,hI.nt,hI.df,fun id hid=> ?_,hup⟩,hl.weak hlo hup⟩;rcases hI.ids id hid with (h|h) | ⟨j,h1,h2,h3⟩
  ·exact .inl (by simp only;omega)
  ·exact .inr h
  ·exact .inl (ZkU h1 h3)
 | .seq x y,s,m,ex,s',m',h,hlo,w,g,ow,a,hs=>by
  simp only[ZcE,Zaj]at h;obtain⟨⟨e1,s1⟩,m1,h1,h2⟩:=h;refine wp_seq (wp_mono (ZcN hm hT hS x s m e1 s1 m1 h1 hlo hs) ?_);rintro e a' w' ⟨rfl,hlo1,g',ow',hs1,hl1⟩
  cases e1 with
  |normal=>
   simp only at h2;refine wp_mono (ZcN hm hT hS y s1 m1 ex s' m' h2 hlo1 hs1) ?_;rintro e a2 w2 ⟨rfl,hlo2,g2,ow2,hs2,hl2⟩
   exact⟨rfl,hlo2,g2,ow2,hs2,hl1.trans hl2⟩
  |exit i=>
   simp only[Zab,Va]at h2;obtain⟨⟨rfl,rfl⟩,_⟩:=h2
   exact⟨rfl,hlo1,g',ow',hs1,hl1⟩
  |ret=>
   simp only[Zab,Va]at h2;obtain⟨⟨rfl,rfl⟩,_⟩:=h2
   exact⟨rfl,hlo1,g',ow',hs1,hl1⟩
  |jump i=>
   simp only[Zab,Va]at h2;obtain⟨⟨rfl,rfl⟩,_⟩:=h2
   exact⟨rfl,hlo1,g',ow',hs1,hl1⟩
 | .cond c x y,s,m,ex,s',m',h,hlo,w,g,ow,a,hs=>by
  simp only[ZcE]at h;split at h
  ·rename_i t ht;have hv:=hs.fr.eval c;rw[ht]at hv;refine wp_cond hv.bool ?_;simp only[ZhI]at h
   cases t with
   |true=>exact ZcN hm hT hS x s m ex s' m' h hlo hs
   |false=>exact ZcN hm hT hS y s m ex s' m' h hlo hs
  ·simp [Zaa]at h
 | .block id c,s,m,ex,s',m',h,hlo,w,g,ow,a,hs=>by
  simp only[ZcE,Zaj]at h;obtain⟨⟨e1,s1⟩,m1,h1,h2⟩:=h;refine wp_block (wp_mono (ZcN hm hT hS c s m e1 s1 m1 h1 hlo hs) ?_);rintro e a' w' ⟨rfl,hlo1,g',ow',hs1,hl1⟩
  cases e1 with
  |normal=>
   simp only[Zab,Va]at h2;obtain⟨⟨rfl,rfl⟩,_⟩:=h2
   exact⟨rfl,hlo1,g',ow',hs1,hl1⟩
  |exit i=>
   simp only[Zo8,Exit.inBlock];simp only[Zae,Zab,Va]at h2;rcases h2 with ⟨hb,⟨rfl,rfl⟩,_⟩ | ⟨hb,⟨rfl,rfl⟩,_⟩
   ·rw[if_pos (Nat.eq_of_beq_eq_true hb)];exact⟨rfl,hlo1,g',ow',hs1,hl1⟩
   ·rw[if_neg fun e=>by rw[e]at hb;simp at hb]
    exact⟨rfl,hlo1,g',ow',hs1,hl1⟩
  |ret=>
   simp only[Zab,Va]at h2;obtain⟨⟨rfl,rfl⟩,_⟩:=h2
   exact⟨rfl,hlo1,g',ow',hs1,hl1⟩
  |jump i=>
   simp only[Zab,Va]at h2;obtain⟨⟨rfl,rfl⟩,_⟩:=h2
   exact⟨rfl,hlo1,g',ow',hs1,hl1⟩
 | .loop c,s,m,ex,s',m',h,hlo,w,g,ow,a,hs=>by
  simp only[ZcE]at h;refine ZeX (fun k a' w' => ∃s1 m1,(ZqF (ZcE E n up c) k s1).run H m1=some ((ex,s'),m')/\lo<=s1.nx/\ ∃g' ow',SA E B H up s1 w' g' ow' a' /\Lb E lo up w g a w' g' a') (n:=n) ⟨s,m,h,hlo,g,ow,hs, .refl w g a⟩ ?_;rintro k a' w' ⟨s1,m1,hk,hlo1,g1,ow1,hs1,hl1⟩
  cases k with
  |zero=>simp [ZqF,Zaa]at hk
  |succ k=>
   simp only[ZqF,Zaj]at hk;obtain⟨⟨e2,s2⟩,m2,h2,h3⟩:=hk;refine wp_mono (ZcN hm hT hS c s1 m1 e2 s2 m2 h2 hlo1 hs1) ?_;rintro e a3 w3 ⟨rfl,hlo2,g2,ow2,hs2,hl2⟩
   cases e2 with
   |normal=>exact⟨k,Nat.lt_succ_self k,s2,m2,h3,hlo2,g2,ow2,hs2,hl1.trans hl2⟩
   |exit i=>
    simp only[Zab,Va]at h3;obtain⟨⟨rfl,rfl⟩,_⟩:=h3
    exact⟨rfl,hlo2,g2,ow2,hs2,hl1.trans hl2⟩
   |ret=>
    simp only[Zab,Va]at h3;obtain⟨⟨rfl,rfl⟩,_⟩:=h3
    exact⟨rfl,hlo2,g2,ow2,hs2,hl1.trans hl2⟩
   |jump i=>
    simp only[Zab,Va]at h3;obtain⟨⟨rfl,rfl⟩,_⟩:=h3
    exact⟨rfl,hlo2,g2,ow2,hs2,hl1.trans hl2⟩
 | .exit id,s,m,ex,s',m',h,hlo,w,g,ow,a,hs=>by
  simp only[ZcE,Zab,Va]at h;obtain⟨⟨rfl,rfl⟩,_⟩:=h
  exact wp_exit ⟨rfl,hlo,g,ow,hs, .refl w g a⟩
 | .ret,s,m,ex,s',m',h,hlo,w,g,ow,a,hs=>by
  simp only[ZcE,Zab,Va]at h;obtain⟨⟨rfl,rfl⟩,_⟩:=h
  exact wp_ret ⟨rfl,hlo,g,ow,hs, .refl w g a⟩
 | .goto _,_,_,_,_,_,h,_,_,_,_,_,_=>by simp [ZcE,Zaa]at h
 | .refuse _,_,_,_,_,_,h,_,_,_,_,_,_=>by simp [ZcE,Zaa]at h
theorem ZjZ{s s' :AS}(h:s.F=s'.F): ∀l:List ResultVar,ZeO E s l=ZeO E s' l
 | []=>rfl
 | .tmp t::l=>by simp only[ZeO,ZjZ h l,h]
 | .cell a T::l=>by simp only[ZeO,ZjZ h l,h]
theorem ZnB{w:World}{g:Gh} : ∀ {l:AVs}{vs:List Value},VRs w g l vs->vs.length=l.len
 | .nil,vs,h=>by simp only[VRs]at h;subst h;rfl
 | .cons _ _,_,h=>by obtain⟨v,r,rfl,_,h⟩:=h;simp [AVs.len,ZnB h]
theorem Zmd{w:World}{g:Gh} : ∀ {l:AVs}{vs:List Value},Zhl l=true->VLs w g l vs->VRs w g l vs
 | .nil,_,_,h=>h
 | .cons v l,_,hn,h=>by
  obtain⟨u,r,rfl,h1,h2⟩:=h
  have hv: (∀m,v≠ .tup m)/\Zhl l=true:=by
   cases v<;>simp [Zhl]at hn<;>exact⟨by simp,hn⟩
  exact⟨u,r,rfl,h1.to1 hv.1,Zmd hv.2 h2⟩
theorem Zp7 (hm:P.follows .mixedOrders=true) {n m:Nat} {fn:Func} {f:FuncId} (hT:Zah P E) (hS:Zbg P {E with nt:=fn.ntmps,ks:=[] } B) (hf:P.funcs[f]? =some fn) (hb:fn.body=some (Zcp fn)) (hname: (fn.name== "runtime.NumGoroutine")=false):ZoS P B m f (Zq8 E n m fn) where
 fn:=⟨fn,hf,by rw[hb];rfl,hname⟩
 run:=by
  intro H w g ow nid avs vals v patch rd hR hk hv h;simp only[Zq8,Zae,Zaa,and_false,false_or,Zaj]at h;obtain⟨hlen,⟨ex,s'⟩,m1,h1,h2⟩:=h;refine calls_of_wp hf hb ?_
  have hvl:vals.length<=fn.ntmps:=by rw[ZnB hv];exact Vb (by simpa using hlen)
  have hs:SA {E with nt:=fn.ntmps,ks:=[] } B H (nid+m) ⟨avs.toF,[],nid⟩ w g ow {tmps:=vals.toArray++Ve (fn.ntmps - vals.toArray.size) undef,defers:=[] } := {
   rh:=hR
   fr:=fun t=>by have:=ZkI hv (fn.ntmps - vals.length) t;simpa [Array.getD_eq_getD_getElem?,List.getD_eq_getElem?_getD, <-Array.getElem?_toList] using this
   nt:=by show (vals.toArray++Ve (fn.ntmps - vals.toArray.size) undef).size=fn.ntmps;simp;omega
   df:=rfl
   ids:=hk
   le:=Nat.le_add_right _ _}
  refine wp_mono (ZcN hm (E:= {E with nt:=fn.ntmps,ks:=[] }) ⟨hT.ty,hT.mty,hT.pk,hT.pz,hT.bd⟩ hS (Zcp fn) _ [] ex s' m1 h1 (Nat.le_refl nid) hs) ?_;rintro e a' w' ⟨rfl,hlo,g',ow',hs',hl⟩
  have key: ((ovl s'.p (ZeO E ⟨s'.F,fun _=>none,0,[]⟩ fn.results.toList) []).bind fun q=>(bif Zhl q.1 then Acc.ret (ZnY q.1,s'.p.reverse) else .fail:Acc (AV×ZaY))).run H m1=some ((v,patch),rd)->a'.defers=[]/\ ∃u,(results fn a'.tmps).run P w' = .ok u w' /\ ∃rv g' ow',Ending.returned u= .returned rv/\RH B (Zad H patch) w' g' ow' /\g.Le g' /\ZaV g.I w w' /\VR w' g' v rv/\ ∀id,g'.K id->g.K id\/(nid<=id/\id<nid+m):=by
   intro h2;simp only[Zaj,Zae,Zab,Zaa,and_false,or_false,Va]at h2;obtain⟨⟨vs,lg⟩,m2,h3,hnt,⟨rfl,rfl⟩,_⟩:=h2;have h4:=ZmZ _ _ _ h3
   have h5: (ZeO E ⟨s'.F,ovB H s'.p,s'.nx,[]⟩ fn.results.toList).run (ovB H s'.p) []=some (vs,lg):=by rw[ZjZ (s:=⟨s'.F,ovB H s'.p,s'.nx,[]⟩) (s' :=⟨s'.F,fun _=>none,0,[]⟩) rfl];exact h4
   obtain⟨rvs,hr1,hr2⟩:=ZeP hT (s:=⟨s'.F,ovB H s'.p,s'.nx,[]⟩) hs'.rh hs'.fr fn.results.toList vs [] lg h5;refine⟨hs'.df,Zoi rvs,Zex hr1,Zoi rvs,g',ow',rfl,by rw[Zm8];exact hs'.rh,hl.le,hl.ag,ZkH (Zmd hnt hr2),hl.nw⟩
  cases ex with
  |normal=>exact key h2
  |exit i=>simp [Zaa]at h2
  |jump i=>simp [Zaa]at h2
  |ret=>exact key h2
end
def stI(d:Nat):Nat:=2 ^ (20* (d+1))
def ZoF(E:Env)(n:Nat)(fns:List (Nat×Func)):Nat->Env
 |0=>E
 |d+1=> {E with st:=stI d,inl:=fun f=>match fns.lookup f with
  |some fn=>some (Zq8 (ZoF E n fns d) n (stI d+64) fn)
  |none=>none}
def ZiG(P:Program):List (Nat×Func)->Prop
 | []=>True
 |p::l=>(P.funcs[p.1]? =some p.2∧p.2.body=some (Zcp p.2)∧(p.2.name== "runtime.NumGoroutine")=false)∧ZiG P l
section
variable {P:Program}{E:Env}{B:Zbr}
theorem ZiG.mem: ∀ {l:List (Nat×Func)},ZiG P l→ ∀p∈l,P.funcs[p.1]? =some p.2∧p.2.body=some (Zcp p.2)∧(p.2.name== "runtime.NumGoroutine")=false
 | [],_,p,hp=>by simp at hp
 |q::l,h,p,hp=>by
  rcases List.mem_cons.1 hp with rfl|hp
  ·exact h.1
  ·exact ZiG.mem h.2 p hp
theorem Zah.put(hT:Zah P E)(s:Nat)(i:FuncId->Option (Nat->AVs->Acc (AV×ZaY))):Zah P {E with st:=s,inl:=i} :=⟨hT.ty,hT.mty,hT.pk,hT.pz,hT.bd⟩
theorem Zhn(hT:Zah P E)(n:Nat)(fns:List (Nat×Func)): ∀d,Zah P (ZoF E n fns d)
 |0=>hT
 |_+1=>hT.put _ _
theorem Zg6(hm:P.follows .mixedOrders=true)(hT:Zah P E)(hS:Zbg P E B)(n:Nat){fns:List (Nat×Func)}(hf:ZiG P fns): ∀d,Zbg P (ZoF E n fns d) B
 |0=>hS
 |d+1=>⟨hS.ok,hS.amb,hS.pl,fun f h he=>by
  have ih:=Zg6 hm hT hS n hf d;simp only[ZoF]at he;split at he
  ·rename_i fn hl;simp only[Option.some.injEq]at he;subst he;obtain⟨h1,h2,h3⟩:=hf.mem (f,fn) (ZbF hl);exact Zp7 hm (Zhn hT n fns d) ⟨ih.ok,ih.amb,ih.pl,ih.inl⟩ h1 h2 h3
  ·simp at he⟩
def Zq0(P:Program)(l:List Nat):Bool:=l.all fun T=>match P.underlying T with
 |some (.pointer e)=>(match P.info? e with
  |some i=> !Vf i.size 0
  |none=>false)
 |_=>false
theorem ZkV{P:Program}{tys:List (Nat×Ty)}{ms:List (Nat×Ty×Ty)}{pks bds:List (Nat×Nat)}{rws zxs pzs:List Nat}{m:List (Nat×List Spec)}{nt n d:Nat}{fns:List (Nat×Func)}{f:FuncId}{fn:Func}{S:Spec}{pack:ZbQ S.args×ZcJ S.res->S.α}
  (hm:P.follows .mixedOrders=true) (ht:ZgM P tys ms pks bds=true) (hz:Zq0 P pzs=true) (hS:ZjQ P m) (hfs:ZiG P fns)
  (hev: ∀x z,S.f x=some z->Zh5 (ZoF {mkE tys ms pks rws zxs m nt bds with pz:=fun n=>pzs.contains n} n fns d) (Zcp fn) fn.results (.all n) S.args S.res pack x S.kp=some z)
  (hf:P.funcs[f]? =some fn:=by kernel_rfl) (hb:fn.body=some (Zcp fn):=by kernel_rfl) (hnt:nt=fn.ntmps:=by kernel_rfl) (hname: (fn.name== "runtime.NumGoroutine")=false:=by kernel_rfl)
  (hwf:S.args.wf=true:=by kernel_rfl) (hlen:Nat.ble S.args.len nt=true:=by kernel_rfl) (hpack: ∀y,S.unp (pack y)=y:=by intro y;rfl) (hpl: (!S.pl||m.all fun p=>p.2.all (·.pl))=true:=by kernel_rfl):ZaF P f S:=by
 let E0:Env:= {mkE tys ms pks rws zxs m nt bds with pz:=fun n=>pzs.contains n}
 have hT0:Zah P E0:=typesOk_of ht rfl rfl rfl rfl fun T h=>by
  simp only[Zq0,Vc]at hz;have h1:=hz T (by simpa [E0] using h);split at h1
  ·rename_i e he;split at h1
   ·rename_i i hi;refine⟨e,he,fun w=>⟨i.size,by simp [Go.sizeOf,typeInfo,hi],fun h0=> ?_⟩⟩;rw[h0]at h1;simp at h1
   ·cases h1
  ·cases h1
 have hsp: ∀g, ∀T∈E0.specs g,ZaF P g T:=Zhs hS rfl
 have hpl' :S.pl=true-> ∀g, ∀T∈E0.specs g,T.pl=true:=fun h g T hT=>by
  rw[h]at hpl;simp only[Bool.not_true,Bool.false_or,Vc]at hpl;have e:E0.specs g=(m.lookup g).getD []:=rfl;rw[e]at hT
  cases hl:m.lookup g with
  |none=>rw[hl]at hT;simp at hT
  |some l=>rw[hl]at hT;exact hpl (g,l) (ZbF hl) T hT
 have hs: ∀d,(ZoF E0 n fns d).specs=E0.specs:=fun d=>by cases d<;>rfl
 refine Zkq (E:=ZoF E0 n fns d) hm (Zhn hT0 n fns d) (by rw[hs];exact hsp) (fun B h1 h2=> ?_) hf hb (by rw[<-hnt];cases d<;>rfl) hname hwf (by cases d<;>exact hlen) hpack (by rw[hs];exact hpl') hev
 rw[hs]at h2;exact(Zg6 hm hT0 ⟨hsp,h1,h2,fun f h e=>absurd (show none=some h from e) (by simp)⟩ n hfs d).inl
def eqD: (t:Ty)->El t->El t->Bool
 | .int _,x,y=>decide (x=y)
 | .bool,x,y=>x==y
 | .str,x,y=>decide (x=y)
 | .sl t,x,y=>eqDs (eqD t) x y
 | .unit,_,_=>true
 | .prod a b,x,y=>eqD a x.1 y.1&&eqD b x.2 y.2
 | .arr _ t,x,y=>eqDs (eqD t) x y
 | .ref,_,_=>true
where eqDs {α:Type} (f:α->α->Bool):List α->List α->Bool
 | [],[]=>true
 |a::l,b::m=>f a b&&eqDs f l m
 |_,_=>false
theorem Zfv: ∀ (t:Ty) (x y:El t),eqD t x y=true->x=y
 | .int _,x,y,h=>of_decide_eq_true h
 | .bool,x,y,h=>beq_iff_eq.1 h
 | .str,x,y,h=>of_decide_eq_true h
 | .sl t,x,y,h=>eqDs_eq (Zfv t) x y h
 | .unit,_,_,_=>rfl
 | .prod a b,x,y,h=>by
  simp only[eqD,Vd]at h
  exact Prod.ext (Zfv a _ _ h.1) (Zfv b _ _ h.2)
 | .arr _ t,x,y,h=>eqDs_eq (Zfv t) x y h
 | .ref,_,_,_=>rfl
where eqDs_eq {α:Type}{f:α->α->Bool} (hf: ∀x y,f x y=true->x=y): ∀ (x y:List α),eqD.eqDs f x y=true->x=y
 | [],[],_=>rfl
 |a::l,b::m,h=>by
  simp only[eqD.eqDs,Vd]at h
  rw[hf a b h.1,eqDs_eq hf l m h.2]
 | [],_::_,h=>by simp [eqD.eqDs]at h
 |_::_,[],h=>by simp [eqD.eqDs]at h
end
end Tr
