/- Chapter 42: the reference's search: what it finds can be reached, and it stops when all rules are closed. Conditions: the network and the query are valid. -/
import Derived.Test.YtckebckjnfcniaaGreatJLxFilt42
namespace Q
open Tr Go
open Option (bind_some)
variable {n:Zay}{q:Za3}
def Zen(l:List Bool):Nat:=l.countP fun b=> !b
def Zkr(l:List (List Bool)):Nat:=(l.map Zen).sum
def Fs(s:ZdW):Nat:=Zkr s.1+Zkr s.2.1+Zen s.2.2.1
theorem Zi2{l:List Bool}{c:Nat}(h:l[c]? =some false):Zen (l.set c true)+1=Zen l:=by
 unfold Zen
 induction l generalizing c with
 |nil=>simp at h
 |cons a l ih=>
  cases c with
  |zero=>
   simp only[List.getElem?_cons_zero,Option.some.injEq]at h;subst h;simp only[List.set_cons_zero,List.countP_cons]
   simp
  |succ c=>
   have:=ih (c:=c) (by simpa using h);simp only[List.set_cons_succ,List.countP_cons];omega
def Zm3(l:List (List Bool))(i c:Nat):List (List Bool):=l.modify i fun row=>row.set c true
theorem ZmN{l:List (List Bool)}{i c:Nat}{row:List Bool}(h:l[i]? =some row)(hc:row[c]? =some false):Zkr (Zm3 l i c)+1=Zkr l:=by have hi:=(List.getElem?_eq_some_iff.1 h);obtain⟨hil,he⟩:=hi;have h1:=Zia Zen hil (row.set c true);have h2:=Zi2 hc;unfold Zkr Zm3;rw[Zci hil,he];rw[he]at h1;omega
theorem Zqe{l:List (List Bool)}{i c:Nat}{row:List Bool}(h:l[i]? =some row)(hc:c<row.length){j d:Nat} :tt (Zm3 l i c) j d↔tt l j d\/(j=i/\d=c):=by
 unfold tt Zm3;constructor
 ·rintro ⟨r,h1,h2⟩;obtain⟨p,hp,⟨rfl,rfl⟩ | ⟨_,rfl⟩⟩:=Zc0 h1
  ·rw[List.getElem?_set]at h2;by_cases e:c=d
   ·exact .inr ⟨rfl,e.symm⟩
   ·rw[if_neg e]at h2;exact .inl ⟨p,hp,h2⟩
  ·exact .inl ⟨_,hp,h2⟩
 ·rintro (⟨r,h1,h2⟩ | ⟨rfl,rfl⟩)
  ·by_cases e:i=j
   ·subst e;refine⟨_,Zc1 h1 _, ?_⟩;rw[List.getElem?_set];by_cases e:c=d
    ·rw[if_pos e,if_pos (by rw[h]at h1;cases h1;exact hc)]
    ·rw[if_neg e];exact h2
   ·exact⟨r,(Zez e _).trans h1,h2⟩
  ·exact⟨_,Zc1 h _,by rw[List.getElem?_set_self hc]⟩
theorem ZkE{l:List (List Bool)}{i c:Nat}{P:Nat->Nat}(hr: ∀ (j:Nat) row,l[j]? =some row->row.length=P j): ∀ (j:Nat) row,(Zm3 l i c)[j]? =some row->row.length=P j:=by
 intro j row h;obtain⟨p,hp,⟨rfl,rfl⟩ | ⟨_,rfl⟩⟩:=Zc0 h
 ·rw[List.length_set];exact hr _ _ hp
 ·exact hr _ _ hp
theorem ZmM(l:List (List Bool))(i c:Nat): (Zm3 l i c).length=l.length:=List.length_modify ..
structure Zjp (n:Zay) (q:Za3) (s:ZdW):Prop where
 b: ∀i c,tt s.1 i c-> ∃k js,Der (Zat n q) q.1 q.2.2.1 (ZcF n q) (.brd k i c false) js
 a: ∀i c,tt s.2.1 i c->(Zab (Zat n q) i c).2.2.2.2.1=true/\ ∃k js,Der (Zat n q) q.1 q.2.2.1 (ZcF n q) (.on k i c) js
 s: ∀i,ts s.2.2.1 i-> ∃k js,Der (Zat n q) q.1 q.2.2.1 (ZcF n q) (.brd k i 0 true) js
theorem ZqK{s:ZdW}(hs:Zjp n q s){i c:Nat}(hc:c< (Zad n i).length)(h:Abd s i c): ∃k js,Der (Zat n q) q.1 q.2.2.1 (ZcF n q) (.on k i c) js:=by
 have hc' :c< (Zad (Zat n q) i).length:=by rw[Zgg];exact hc
 rcases h with ⟨h1,h2⟩ | ⟨b,h1,h2⟩
 ·obtain⟨k,js,d⟩:=hs.s i h2;exact⟨k,_, .on d h1 hc'⟩
 ·obtain⟨k,js,d⟩:=hs.b i b h2;exact⟨k,_, .on d h1 hc'⟩
theorem Zt7(h:NQ n q){s:ZdW}(hs:Zjp n q s){i c:Nat}(hi:i<n.2.2.1.length)(hc:c< (Zad n i).length)(hu:Zbh (Zat n q) i=false)(ho:Opn n q s i c): ∃k js,Der (Zat n q) q.1 q.2.2.1 (ZcF n q) (.brd k i c false) js:=by
 have hi' :i< (Zat n q).2.2.1.length:=by rw[ZkO];exact hi
 have hc' :c< (Zad (Zat n q) i).length:=by rw[Zgg];exact hc
 obtain⟨h1,h2,h3⟩:=ho;have ht:=h.net.time hi hc;have hb: (Zab (Zat n q) i c).2.2.2.1=true:=by rw[ZbA,h1,h2];rfl
 have e1: (Zab (Zat n q) i c).1=(Zab n i c).1:=by rw[ZbA]
 have e2: (Zab (Zat n q) i c).2.2.1=(Zab n i c).2.2.1:=by rw[ZbA]
 rcases h3 with (⟨b1,b2⟩ | ⟨p,p1,p2,p3,p4⟩) | ⟨k,d,hk,hA,hg⟩
 ·exact⟨_,_, .board .init hi' hc' hu (by rw[e1];exact b1) hb (by rw[e2];exact b2)⟩
 ·exact⟨_,_, .board (.rdyW p1 p2 (by omega)) hi' hc' hu (by rw[e1];exact p3.symm) hb (by rw[e2];exact p4)⟩
 ·obtain⟨hal,k',js,dd⟩:=hs.a k d hA;have e3: (Zab (Zat n q) k d).1=(Zab n k d).1:=by rw[ZbA]
  have e4: (Zab (Zat n q) k d).2.1=(Zab n k d).2.1:=by rw[ZbA]
  have dr:=Der.ride dd hal;rcases hg with ⟨g1,g2| ⟨g2,g3⟩⟩ | ⟨p,p1,p2,p3,p4⟩
  ·exact⟨_,_, .board (.change dr) hi' hc' hu (by rw[e1,e3];exact g1.symm) hb (by rw[e2,e3,e4];exact g2)⟩
  ·exact⟨_,_, .linked (.link dd hal g3 (by rw[e2,e4];exact g2) hb) hu⟩
  ·exact⟨_,_, .board (.rdyV dr p1 (by rw[e3];exact p2) (by rw[e4];omega)) hi' hc' hu (by rw[e1];exact p3.symm) hb (by rw[e2,e4];exact p4)⟩
theorem ZtT{s:ZdW}(hs:Zjp n q s){i:Nat}(hu:Zbh (Zat n q) i=false)(h2: ∀k,k<n.2.2.1.length->2<=(Zad n k).length)(h:Sty n s i): ∃k js,Der (Zat n q) q.1 q.2.2.1 (ZcF n q) (.brd k i 0 true) js:=by
 obtain⟨k,hk,hl,ha,ht⟩:=h;obtain⟨k',js,d⟩:=ZqK hs (show (Zad n k).length - 1< (Zad n k).length by have:=h2 k hk;omega) ha;have e1: (Zab (Zat n q) k ((Zad n k).length - 1)).2.1=(Zab n k ((Zad n k).length - 1)).2.1:=by rw[ZbA]
 have e2: (Zab (Zat n q) i 0).2.2.1=(Zab n i 0).2.2.1:=by rw[ZbA]
 exact⟨k',js, .stay d hl (by rw[e1,e2];exact ht) hu⟩
structure PI (n:Zay) (q:Za3) (s0 s:ZdW) (ag:Bool):Prop where
 shape:Ziu n s
 snd:Zjp n q s
 le:Fs s<=Fs s0
 dec:ag=true->Fs s<Fs s0
 same:ag=false->s=s0
def RCl(n:Zay)(q:Za3)(s:ZdW)(i c:Nat):Prop:=(c+1< (Zad n i).length->Opn n q s i c->tt s.1 i c)/\((Zab n i c).2.2.2.2.1=true->ZfC n q (Zab n i c).1=true->Abd s i c->tt s.2.1 i c)
abbrev Zha:=List (List Bool) ×List (List Bool) ×List Bool×Unit
theorem Zoe(h:NQ n q){s0 s:ZdW}{ag:Bool}(hP:PI n q s0 s ag){i c:Nat}(hi:i<n.2.2.1.length)(hc:c< (Zad n i).length)(hu:Zbh (Zat n q) i=false)(J:Zha):
  ∃s' ag',(Option.bind
    (bif decide (IntKind.wrap .i64 ((c:Int)+(1:Int))< (↑(Zad n i).length:Int)) then
    Option.bind (inb (i:Int) (List.length s.1)) fun x13=>
    Option.bind s.1[x13]? fun _=>
    Option.bind (idx s.1 (↑x13:Int)) fun x15=>
    Option.bind (inb (c:Int) (List.length x15)) fun x16=>
    Option.bind (idx s.1 (↑x13:Int)) fun x17=>
    Option.bind x17[x16]? fun x18=>
    bif !x18 then Option.bind (F103 n q s (i:Int) (c:Int)) fun x19=>some x19 else some false
    else some false) fun x20=>
    (bif x20 then
    Option.bind (inb (i:Int) (List.length s.1)) fun x21=>
    Option.bind s.1[x21]? fun _=>
    Option.bind (idx s.1 (↑x21:Int)) fun x23=>
    Option.bind (inb (c:Int) (List.length x23)) fun x24=>
    Option.bind (idx s.1 (↑x21:Int)) fun x25=>
    Option.bind x25[x24]? fun _=>
    some (J,(List.set s.1 (Int.toNat (↑x21:Int)) (List.set x25 x24 true),s.2.1,s.2.2.1,()),true)
    else some (J,s,ag)))=some (J,s',ag')/\PI n q s0 s' ag' /\(ag' =false->ag=false/\(c+1< (Zad n i).length->Opn n q s i c->tt s.1 i c)):=by
 have hcl: (Zad n i).length<=32:=by rw[ZaO hi];exact(h.net.sound.many _ (List.getElem_mem hi)).2
 have w1:IntKind.wrap .i64 ((c:Int)+1)=((c+1:Nat):Int):=by rw[Zaj (by omega) (by omega)];omega
 have hil:i<s.1.length:=by rw[hP.shape.bl];exact hi
 obtain⟨row,b,g1,g2,g3,g4,g5,g6⟩:=ZhQ hil (hP.shape.br i) hc;have hcr:c<row.length:=by omega
 rw[w1];by_cases hlast:c+1< (Zad n i).length
 rotate_left
 ·rw[decide_eq_false (show¬ ((c+1:Nat):Int)< ((Zad n i).length:Int) by omega)];exact⟨s,ag,rfl,hP,fun e=>⟨e,fun a=>absurd a hlast⟩⟩
 rw[decide_eq_true (show ((c+1:Nat):Int)< ((Zad n i).length:Int) by omega)];simp only[cond_true,ZaH hil,bind_some,g1,g2,ZaH hcr,g4]
 cases b with
 |true=>
  refine⟨s,ag,rfl,hP,fun e=>⟨e,fun _ _=>g6.1 rfl⟩⟩
 |false=>
  obtain⟨x,x1,x2⟩:=ZrB h hP.shape hi hc;simp only[Bool.not_false,cond_true,x1,bind_some]
  cases x with
  |false=>exact⟨s,ag,rfl,hP,fun e=>⟨e,fun _ ho=>by have:=x2.2 ho;cases this⟩⟩
  |true=>
   simp only[cond_true]
   have hset:List.set s.1 (Int.toNat (i:Int)) (List.set row c true)=Zm3 s.1 i c:=by unfold Zm3;rw[Zci hil,Int.toNat_natCast];congr 2;rw[List.getElem?_eq_getElem hil]at g1;exact(Option.some.inj g1).symm
   rw[hset];have hf:=ZmN g1 g4;refine⟨_,true,rfl,⟨⟨by rw[ZmM];exact hP.shape.bl,ZkE hP.shape.br,hP.shape.al,hP.shape.ar,hP.shape.sl⟩,⟨fun j d hd=> ?_,hP.snd.a,hP.snd.s⟩, ?_,fun _=> ?_,fun e=>nomatch e⟩,fun e=>nomatch e⟩
   ·rcases (Zqe g1 hcr).1 hd with hd| ⟨rfl,rfl⟩
    ·exact hP.snd.b j d hd
    ·exact Zt7 h hP.snd hi hc hu (x2.1 rfl)
   ·have:=hP.le;unfold Fs at this ⊢;show Zkr (Zm3 s.1 i c)+Zkr s.2.1+Zen s.2.2.1<=_;omega
   ·have:=hP.le;unfold Fs at this ⊢;show Zkr (Zm3 s.1 i c)+Zkr s.2.1+Zen s.2.2.1<_;omega
theorem ZlO(h:NQ n q){s0 s:ZdW}{ag:Bool}(hP:PI n q s0 s ag){i c:Nat}(hi:i<n.2.2.1.length)(hc:c< (Zad n i).length)(J:Zha)(cc:Int):
  ∃s' ag',(Option.bind
    (Option.bind (inb (i:Int) (List.length s.2.1)) fun x28=>
    Option.bind s.2.1[x28]? fun _=>
    Option.bind (idx s.2.1 (↑x28:Int)) fun x30=>
    Option.bind (inb (c:Int) (List.length x30)) fun x31=>
    Option.bind (idx s.2.1 (↑x28:Int)) fun x32=>
    Option.bind x32[x31]? fun x33=>
    bif !x33 then
    Option.bind (idx (Zad n i) (c:Int)) fun x34=>
    bif x34.2.2.2.2.1 then
    Option.bind (idx (Zad n i) (c:Int)) fun x35=>
    Option.bind (F83 n q x35.1) fun x36=>
    bif x36 then Option.bind (F98 s (i:Int) (c:Int)) fun x37=>some x37 else some false
    else some false
    else some false) fun x38=>
    bif x38 then
    Option.bind (inb (i:Int) (List.length s.2.1)) fun x39=>
    Option.bind s.2.1[x39]? fun _=>
    Option.bind (idx s.2.1 (↑x39:Int)) fun x41=>
    Option.bind (inb (c:Int) (List.length x41)) fun x42=>
    Option.bind (idx s.2.1 (↑x39:Int)) fun x43=>
    Option.bind x43[x42]? fun _=>
    some (.inl (J,(s.1,List.set s.2.1 (Int.toNat (↑x39:Int)) (List.set x43 x42 true),s.2.2.1,()),true,cc))
    else some (.inl (J,s,ag,cc)))=(some (.inl (J,s',ag',cc)):Option ((Zha×ZdW×Bool×Int) ⊕ (Zha×ZdW×Bool)))/\PI n q s0 s' ag' /\(ag' =false->ag=false/\((Zab n i c).2.2.2.2.1=true->ZfC n q (Zab n i c).1=true->Abd s i c->tt s.2.1 i c)):=by
 have hst:=h.net.stop hi hc;have hil:i<s.2.1.length:=by rw[hP.shape.al];exact hi
 obtain⟨row,b,g1,g2,g3,g4,g5,g6⟩:=ZhQ hil (hP.shape.ar i) hc;have hcr:c<row.length:=by omega
 simp only[ZaH hil,bind_some,g1,g2,ZaH hcr,g4,ZeF hc]
 cases b with
 |true=>exact⟨s,ag,rfl,hP,fun e=>⟨e,fun _ _ _=>g6.1 rfl⟩⟩
 |false=>
  simp only[Bool.not_false,cond_true]
  cases hal: (Zab n i c).2.2.2.2.1 with
  |false=>exact⟨s,ag,rfl,hP,fun e=>⟨e,fun a=>by cases a⟩⟩
  |true=>
   simp only[cond_true,Zga q (Zcz.2 hst),bind_some]
   cases ho:ZfC n q (Zab n i c).1 with
   |false=>exact⟨s,ag,rfl,hP,fun e=>⟨e,fun _ a=>by cases a⟩⟩
   |true=>
    obtain⟨x,x1,x2⟩:=Zle h hP.shape hi hc;simp only[cond_true,x1,bind_some]
    cases x with
    |false=>exact⟨s,ag,rfl,hP,fun e=>⟨e,fun _ _ a=>by have:=x2.2 a;cases this⟩⟩
    |true=>
     simp only[cond_true]
     have hset:List.set s.2.1 (Int.toNat (i:Int)) (List.set row c true)=Zm3 s.2.1 i c:=by unfold Zm3;rw[Zci hil,Int.toNat_natCast];congr 2;rw[List.getElem?_eq_getElem hil]at g1;exact(Option.some.inj g1).symm
     rw[hset];have hf:=ZmN g1 g4;refine⟨_,true,rfl,⟨⟨hP.shape.bl,hP.shape.br,by rw[ZmM];exact hP.shape.al,ZkE hP.shape.ar,hP.shape.sl⟩,⟨hP.snd.b,fun j d hd=> ?_,hP.snd.s⟩, ?_,fun _=> ?_,fun e=>nomatch e⟩,fun e=>nomatch e⟩
     ·rcases (Zqe g1 hcr).1 hd with hd| ⟨rfl,rfl⟩
      ·exact hP.snd.a j d hd
      ·refine⟨by rw[ZbA,hal,ho];rfl,ZqK hP.snd hc (x2.1 rfl)⟩
     ·have:=hP.le;unfold Fs at this ⊢;show Zkr s.1+Zkr (Zm3 s.2.1 i c)+Zen s.2.2.1<=_;omega
     ·have:=hP.le;unfold Fs at this ⊢;show Zkr s.1+Zkr (Zm3 s.2.1 i c)+Zen s.2.2.1<_;omega
end Q
namespace Q
open Tr Go
open Option (bind_some)
variable {n:Zay}{q:Za3}
noncomputable def Zf4(n:Zay)(q:Za3)(i:Int)(x11:Zh9)(s12:Zha×ZdW×Bool×Int):Option ((Zha×ZdW×Bool×Int) ⊕ (Zha×ZdW×Bool)):=
 bif decide (s12.2.2.2< (↑(List.length x11.2.2.2.2.2.2.2.1):Int)) then
 Option.bind
 (bif decide (IntKind.wrap .i64 (s12.2.2.2+(1:Int))< (↑(List.length x11.2.2.2.2.2.2.2.1):Int)) then
 Option.bind (inb i (List.length s12.2.1.1)) fun x13=>
 Option.bind s12.2.1.1[x13]? fun _=>
 Option.bind (idx s12.2.1.1 (↑x13:Int)) fun x15=>
 Option.bind (inb s12.2.2.2 (List.length x15)) fun x16=>
 Option.bind (idx s12.2.1.1 (↑x13:Int)) fun x17=>
 Option.bind x17[x16]? fun x18=>
 bif !x18 then
 Option.bind (F103 n q s12.2.1 i s12.2.2.2) fun x19=>
 some x19
 else some false
 else some false)
 fun x20=>
 Option.bind
 (bif x20 then
 Option.bind (inb i (List.length s12.2.1.1)) fun x21=>
 Option.bind s12.2.1.1[x21]? fun _=>
 Option.bind (idx s12.2.1.1 (↑x21:Int)) fun x23=>
 Option.bind (inb s12.2.2.2 (List.length x23)) fun x24=>
 Option.bind (idx s12.2.1.1 (↑x21:Int)) fun x25=>
 Option.bind x25[x24]? fun _=>
 some
 (s12.1,
 (List.set s12.2.1.1 (Int.toNat (↑x21:Int)) (List.set x25 x24 true),s12.2.1.2.1,s12.2.1.2.2.1,()),
 true)
 else
 some (s12.1,s12.2.1,s12.2.2.1))
 fun x27=>
 Option.bind
 (Option.bind (inb i (List.length x27.2.1.2.1)) fun x28=>
 Option.bind x27.2.1.2.1[x28]? fun _=>
 Option.bind (idx x27.2.1.2.1 (↑x28:Int)) fun x30=>
 Option.bind (inb s12.2.2.2 (List.length x30)) fun x31=>
 Option.bind (idx x27.2.1.2.1 (↑x28:Int)) fun x32=>
 Option.bind x32[x31]? fun x33=>
 bif !x33 then
 Option.bind (idx x11.2.2.2.2.2.2.2.1 s12.2.2.2) fun x34=>
 bif x34.2.2.2.2.1 then
 Option.bind (idx x11.2.2.2.2.2.2.2.1 s12.2.2.2) fun x35=>
 Option.bind (F83 n q x35.1) fun x36=>
 bif x36 then
 Option.bind (F98 x27.2.1 i s12.2.2.2)
 fun x37=>some x37
 else some false
 else some false
 else some false)
 fun x38=>
 bif x38 then
 Option.bind (inb i (List.length x27.2.1.2.1)) fun x39=>
 Option.bind x27.2.1.2.1[x39]? fun _=>
 Option.bind (idx x27.2.1.2.1 (↑x39:Int)) fun x41=>
 Option.bind (inb s12.2.2.2 (List.length x41)) fun x42=>
 Option.bind (idx x27.2.1.2.1 (↑x39:Int)) fun x43=>
 Option.bind x43[x42]? fun _=>
 some
 (.inl
 (x27.1,
 (x27.2.1.1,List.set x27.2.1.2.1 (Int.toNat (↑x39:Int)) (List.set x43 x42 true),x27.2.1.2.2.1,()),
 true,IntKind.wrap .i64 (s12.2.2.2+(1:Int))))
 else
 some
 (.inl
 (x27.1,x27.2.1,x27.2.2,
 IntKind.wrap .i64 (s12.2.2.2+(1:Int))))
 else
 some
 (.inr (s12.1,s12.2.1,s12.2.2.1))
theorem Zoi(h:NQ n q){s0 s:ZdW}{ag:Bool}(hP:PI n q s0 s ag){i:Nat}(hi:i<n.2.2.1.length)(hu:Zbh (Zat n q) i=false)(J:Zha):
  ∃s' ag',run (Zf4 n q (i:Int) n.2.2.1[i]) (J,s,ag,(0:Int))=some (J,s',ag')/\PI n q s0 s' ag' /\(ag' =false->ag=false/\ ∀c,c< (Zad n i).length->RCl n q s0 i c):=by
 obtain⟨e1,e2⟩:=Zfi hi;have hcl: (Zad n i).length<=32:=by rw[ZaO hi];exact(h.net.sound.many _ (List.getElem_mem hi)).2
 have key: ∃r:Zha×ZdW×Bool,run (Zf4 n q (i:Int) n.2.2.1[i]) (J,s,ag,(0:Int))=some r/\r.1=J/\PI n q s0 r.2.1 r.2.2/\(r.2.2=false->ag=false/\ ∀c,c< (Zad n i).length->RCl n q s0 i c):=by
  refine ZaX (Zad n i).length _ (fun c (st:Zha×ZdW×Bool×Int)=>st.2.2.2=(c:Int)/\st.1=J/\PI n q s0 st.2.1 st.2.2.1/\(st.2.2.1=false->ag=false/\ ∀d,d<c->RCl n q s0 i d)) ?_ ?_ _ ⟨rfl,rfl,hP,fun e=>⟨e,fun d hd=>absurd hd (Nat.not_lt_zero d)⟩⟩
  ·rintro c ⟨J',st,g,j⟩ hc ⟨hj,hJ,hPs,hcl'⟩;simp only at hj hJ hPs hcl';subst hj hJ;left;unfold Zf4;simp only[e2,Zax hc,cond_true,Zal hc (show _<=9223372036854775807 by omega)];obtain⟨s1,g1,b1,b2,b3⟩:=Zoe h hPs hi hc hu J';obtain⟨s2,g2,a1,a2,a3⟩:=ZlO h b2 hi hc J' ((c+1:Nat):Int);have w1:IntKind.wrap .i64 ((c:Int)+1)=((c+1:Nat):Int):=by rw[Zaj (by omega) (by omega)];omega
   rw[w1]at b1;refine⟨(J',s2,g2,((c+1:Nat):Int)), ?_,rfl,rfl,a2,fun e=> ?_⟩
   ·refine(Option.bind_assoc _ _ _).symm.trans ?_;rw[w1]at*;refine(congrArg (fun o=>Option.bind o _) b1).trans ?_;simp only[bind_some];exact a1
   ·obtain⟨e1',f1⟩:=a3 e;obtain⟨e2',f2⟩:=b3 e1';obtain⟨e3',f3⟩:=hcl' e2';refine⟨e3',fun d hd=> ?_⟩;by_cases hdc:d=c
    ·subst hdc;have q1:=b2.same e1';have q2:=hPs.same e2';subst q1;rw[q2]at f2;exact⟨f2,f1⟩
    ·exact f3 d (by omega)
  ·rintro ⟨J',st,g,j⟩ ⟨hj,hJ,hPs,hcl'⟩;simp only at hj hJ hPs hcl';subst hj hJ;unfold Zf4;simp only[e2,Zaw,cond_false];exact⟨_,rfl,rfl,hPs,hcl'⟩
 obtain⟨⟨J',s',g'⟩,r1,r2,r3,r4⟩:=key;simp only at r2 r3 r4;subst r2;exact⟨s',g',r1,r3,r4⟩
noncomputable def Zgt(n:Zay)(q:Za3)(s2:Zha×ZdW×Bool×Int):Option ((Zha×ZdW×Bool×Int) ⊕ (Zha×ZdW×Bool)):=
 bif decide (s2.2.2.2< (↑(List.length n.2.2.1):Int)) then
 Option.bind (F106 n q s2.2.2.2) fun x3=>
 bif !x3 then
 some
 (.inl
 (s2.1,s2.2.1,s2.2.2.1,
 IntKind.wrap .i64 (s2.2.2.2+(1:Int))))
 else
 Option.bind
 (Option.bind (inb s2.2.2.2 (List.length s2.2.1.2.2.1)) fun x4=>
 Option.bind s2.2.1.2.2.1[x4]? fun x5=>
 bif !x5 then Option.bind (F105 n s2.2.1 s2.2.2.2) fun x6=>some x6
 else some false)
 fun x7=>
 Option.bind
 (bif x7 then
 Option.bind (inb s2.2.2.2 (List.length s2.2.1.2.2.1)) fun x8=>
 Option.bind s2.2.1.2.2.1[x8]? fun _=>
 some (s2.1,(s2.2.1.1,s2.2.1.2.1,List.set s2.2.1.2.2.1 x8 true,()),true)
 else some (s2.1,s2.2.1,s2.2.2.1))
 fun x10=>
 Option.bind (idx n.2.2.1 s2.2.2.2) fun x11=>
 Option.bind
 (run (Zf4 n q s2.2.2.2 x11)
 (x10.1,x10.2.1,x10.2.2,(0:Int)))
 fun x45=>
 some
 (.inl
 (x45.1,x45.2.1,x45.2.2,
 IntKind.wrap .i64 (s2.2.2.2+(1:Int))))
 else some (.inr (s2.1,s2.2.1,s2.2.2.1))
def Zme(n:Zay)(q:Za3)(s:ZdW)(i:Nat):Prop:=Zbh (Zat n q) i=false->(Sty n s i->ts s.2.2.1 i)/\ ∀c,c< (Zad n i).length->RCl n q s i c
theorem ZkA(h:NQ n q){s0:ZdW}(hS:Ziu n s0)(hD:Zjp n q s0)(J:Zha): ∃s' ag',run (Zgt n q) (J,s0,false,(0:Int))=some (J,s',ag')/\PI n q s0 s' ag' /\(ag' =false-> ∀i,i<n.2.2.1.length->Zme n q s0 i):=by
 have hrn:=h.net.sound.runs;have h2: ∀k,k<n.2.2.1.length->2<=(Zad n k).length:=fun k hk=>by rw[ZaO hk];exact(h.net.sound.many _ (List.getElem_mem hk)).1
 have key: ∃r:Zha×ZdW×Bool,run (Zgt n q) (J,s0,false,(0:Int))=some r/\r.1=J/\PI n q s0 r.2.1 r.2.2/\(r.2.2=false-> ∀i,i<n.2.2.1.length->Zme n q s0 i):=by
  refine ZaX n.2.2.1.length _ (fun i (st:Zha×ZdW×Bool×Int)=>st.2.2.2=(i:Int)/\st.1=J/\PI n q s0 st.2.1 st.2.2.1/\(st.2.2.1=false-> ∀j,j<i->Zme n q s0 j)) ?_ ?_ _ ⟨rfl,rfl,⟨hS,hD,Nat.le_refl _,fun e=>(nomatch e),fun _=>rfl⟩,fun _ j hj=>absurd hj (Nat.not_lt_zero j)⟩
  ·rintro i ⟨J',st,g,j⟩ hi ⟨hj,hJ,hP,hcl⟩;simp only at hj hJ hP hcl;subst hj hJ;left;unfold Zgt;simp only[Zax hi,cond_true,Zkw h.net.sound h.mode hi,bind_some,Zal hi (show _<=9223372036854775807 by omega)];have hcu:=Zvd (q:=q) hi
   cases huse:Zod n q n.2.2.1[i] with
   |false=>
    rw[huse]at hcu;refine⟨_,rfl,rfl,rfl,hP,fun e k hk=> ?_⟩;by_cases hki:k=i
    ·subst hki;intro hcn;rw[hcu]at hcn;cases hcn
    ·exact hcl e k (by omega)
   |true=>
    rw[huse]at hcu;have hu:Zbh (Zat n q) i=false:=hcu;simp only[Bool.not_true,cond_false];have hsl:i<st.2.2.1.length:=by rw[hP.shape.sl];exact hi
    simp only[ZaH hsl,bind_some,List.getElem?_eq_getElem hsl]
    have hstay: ∃s' g',(Option.bind (bif !st.2.2.1[i] then Option.bind (F105 n st (i:Int)) fun x6=>some x6 else some false) fun x7=>
      (bif x7 then some (J',(st.1,st.2.1,List.set st.2.2.1 i true,()),true) else some (J',st,g)))=some (J',s',g')/\PI n q s0 s' g' /\(g' =false->g=false/\(Sty n st i->ts st.2.2.1 i)):=by
     cases hb:st.2.2.1[i] with
     |true=>
      refine⟨st,g,rfl,hP,fun e=>⟨e,fun _=> ?_⟩⟩;unfold ts
      rw[List.getElem?_eq_getElem hsl,hb]
     |false=>
      obtain⟨x,x1,x2⟩:=ZrQ h hP.shape hi;simp only[Bool.not_false,cond_true,x1,bind_some]
      cases x with
      |false=>exact⟨st,g,rfl,hP,fun e=>⟨e,fun a=>by have:=x2.2 a;cases this⟩⟩
      |true=>
       simp only[cond_true];have hf:=Zi2 (l:=st.2.2.1) (c:=i) (by rw[List.getElem?_eq_getElem hsl,hb]);refine⟨_,true,rfl,⟨⟨hP.shape.bl,hP.shape.br,hP.shape.al,hP.shape.ar,by show (st.2.2.1.set i true).length=_;rw[List.length_set];exact hP.shape.sl⟩,⟨hP.snd.b,hP.snd.a,fun k hk=> ?_⟩, ?_,fun _=> ?_,fun e=>nomatch e⟩,fun e=>nomatch e⟩
       ·rcases Zf3 (show (st.2.2.1.set i true)[k]? =some true from hk) with ⟨rfl,_⟩ |hk
        ·exact ZtT hP.snd hu h2 (x2.1 rfl)
        ·exact hP.snd.s k hk
       ·have:=hP.le;unfold Fs at this ⊢;show Zkr st.1+Zkr st.2.1+Zen (st.2.2.1.set i true)<=_;omega
       ·have:=hP.le;unfold Fs at this ⊢;show Zkr st.1+Zkr st.2.1+Zen (st.2.2.1.set i true)<_;omega
    obtain⟨s1,g1,t1,t2,t3⟩:=hstay;obtain⟨s2,g2,c1,c2,c3⟩:=Zoi h t2 hi hu J';refine⟨(J',s2,g2,((i+1:Nat):Int)), ?_,rfl,rfl,c2,fun e=> ?_⟩
    ·refine(Option.bind_assoc _ _ _).symm.trans ?_;refine(congrArg (fun o=>Option.bind o _) t1).trans ?_;simp only[bind_some,Zah hi,c1]
    ·obtain⟨e1,f1⟩:=c3 e;obtain⟨e2,f2⟩:=t3 e1;intro k hk;by_cases hki:k=i
     ·subst hki;have q2:=hP.same e2;rw[q2]at f2;exact fun _=>⟨f2,f1⟩
     ·exact hcl e2 k (by omega)
  ·rintro ⟨J',st,g,j⟩ ⟨hj,hJ,hP,hcl⟩;simp only at hj hJ hP hcl;subst hj hJ;unfold Zgt;simp only[Zaw,cond_false];exact⟨_,rfl,rfl,hP,hcl⟩
 obtain⟨⟨J',s',g'⟩,r1,r2,r3,r4⟩:=key;simp only at r2 r3 r4;subst r2;exact⟨s',g',r1,r3,r4⟩
theorem ZoK(h:NQ n q): ∃s,F104 n=some s/\Ziu n s/\Zjp n q s:=by
 have hrn:=h.net.sound.runs;have hmx: (Zaq:Int)=4294967296:=by simp [Zaq]
 unfold F104
 have hg0: ∀m:Nat,m<=4096->Zar (decide ((0:Int)<=(m:Int)/\(m:Int)<=(m:Int)/\(m:Int)<=(Zaq:Int)))=some ():=fun m hm=>by rw[decide_eq_true (by rw[hmx];omega)];rfl
 refine bex (fun _=>True) ⟨(),hg0 _ (by omega),trivial⟩ fun _ _=> ?_;refine bex (fun r:Zha×ZdW=>Ziu n r.2/\(∀i c, ¬tt r.2.1 i c)/\(∀i c, ¬tt r.2.2.1 i c)/\ ∀i, ¬ts r.2.2.2.1 i) ?_ (fun r hr=>⟨_,rfl,hr.1,⟨fun i c e=>absurd e (hr.2.1 i c),fun i c e=>absurd e (hr.2.2.1 i c),fun i e=>absurd e (hr.2.2.2 i)⟩⟩)
 have hrep: ∀ (m i:Nat), ¬ts (List.replicate m false) i:=fun m i e=>by have:=List.eq_of_mem_replicate (List.mem_of_getElem? (show (List.replicate m false)[i]? =some true from e));cases this
 refine ZaX n.2.2.1.length _ (fun i (st:Zha×ZdW×Int)=>st.2.2=(i:Int)/\st.2.1.1=(List.range i).map (fun j=>List.replicate (Zad n j).length false)/\st.2.1.2.1=(List.range i).map (fun j=>List.replicate (Zad n j).length false)/\st.2.1.2.2.1=List.replicate n.2.2.1.length false) ?_ ?_ _ ⟨rfl,rfl,rfl,by simp⟩
 ·rintro i ⟨J,⟨B,A,S,u⟩,j⟩ hi ⟨hj,hB,hA,hSs⟩;simp only at hj hB hA hSs;subst hj hB hA hSs;left;have e2:=(Zfi hi).2;have hc: (Zad n i).length<=4096:=by rw[ZaO hi];have:=(h.net.sound.many _ (List.getElem_mem hi)).2;omega
  have hg1:Zar (decide (List.length ((List.range i).map fun j=>List.replicate (Zad n j).length false)+List.length [List.replicate (Zad n i).length false]<=Zaq))=some ():=Zbg (by simp;omega);simp only[Zax hi,cond_true,Zah hi,bind_some,e2,hg0 _ hc,hg1,Zal hi (show _<=9223372036854775807 by omega),Int.toNat_natCast];refine⟨_,rfl,rfl, ?_, ?_,rfl⟩
  ·simp [List.range_succ]
  ·simp [List.range_succ]
 ·rintro ⟨J,⟨B,A,S,u⟩,j⟩ ⟨hj,hB,hA,hSs⟩;simp only at hj hB hA hSs;subst hj hB hA hSs;simp only[Zaw,cond_false]
  have hrows: ∀ (i:Nat) row,((List.range n.2.2.1.length).map fun j=>List.replicate (Zad n j).length false)[i]? =some row->row=List.replicate (Zad n i).length false:=by
   intro i row e;rw[List.getElem?_map]at e;by_cases hi:i<n.2.2.1.length
   ·rw[List.getElem?_eq_getElem (by simpa using hi)]at e;simp at e;exact e.symm
   ·rw[List.getElem?_eq_none (by simpa using hi)]at e;cases e
  have hno: ∀i c, ¬tt ((List.range n.2.2.1.length).map fun j=>List.replicate (Zad n j).length false) i c:=by rintro i c ⟨row,e1,e2⟩;rw[hrows i row e1]at e2;exact hrep _ c e2
  exact⟨_,rfl,⟨by simp,fun i row e=>(by rw[hrows i row e];simp),by simp,fun i row e=>(by rw[hrows i row e];simp),by simp⟩,hno,hno,hrep _⟩
theorem ZlH(h:NQ n q): ∃s,F97 n q=some s/\Ziu n s/\Zjp n q s/\ ∀i,i<n.2.2.1.length->Zme n q s i:=by
 obtain⟨s0,s1,s2,s3⟩:=ZoK h;unfold F97;rw[s1];simp only[bind_some]
 have loop: ∀ (k:Nat) (J:Zha) (s:ZdW) (ag:Bool),Fs s<=k->Ziu n s->Zjp n q s->(ag=false-> ∀i,i<n.2.2.1.length->Zme n q s i)-> ∃r:Zha×ZdW,run (fun s1:Zha×ZdW×Bool=>
   bif s1.2.2 then
   Option.bind (run (Zgt n q) (s1.1,s1.2.1,false,(0:Int))) fun x46=>some (.inl (x46.1,x46.2.1,x46.2.2))
   else some (.inr (s1.1,s1.2.1.1,s1.2.1.2.1,s1.2.1.2.2.1,()))) (J,s,ag)=some r/\Ziu n r.2/\Zjp n q r.2/\ ∀i,i<n.2.2.1.length->Zme n q r.2 i:=by
  intro k
  induction k with
  |zero=>
   intro J s ag hk hS hD hcl
   cases ag with
   |false=>exact⟨_,Zbu rfl,hS,hD,hcl rfl⟩
   |true=>
    obtain⟨s',g',r1,r2,r3⟩:=ZkA h hS hD J
    have hg:g' =false:=by
     cases g' with
     |false=>rfl
     |true=>have:=r2.dec rfl;omega
    subst hg;refine⟨(J,s'), ?_,r2.shape,r2.snd, ?_⟩
    ·refine(Zca (s' :=(J,s',false)) ?_).trans (Zbu rfl);simp only[cond_true,r1,bind_some]
    ·rw[r2.same rfl];exact r3 rfl
  |succ k ih=>
   intro J s ag hk hS hD hcl
   cases ag with
   |false=>exact⟨_,Zbu rfl,hS,hD,hcl rfl⟩
   |true=>
    obtain⟨s',g',r1,r2,r3⟩:=ZkA h hS hD J
    have hst: (fun s1:Zha×ZdW×Bool=>
      bif s1.2.2 then
      Option.bind (run (Zgt n q) (s1.1,s1.2.1,false,(0:Int))) fun x46=>some (.inl (x46.1,x46.2.1,x46.2.2))
      else some (.inr (s1.1,s1.2.1.1,s1.2.1.2.1,s1.2.1.2.2.1,()))) (J,s,true)=(some (.inl (J,s',g')):Option ((Zha×ZdW×Bool) ⊕ (Zha×ZdW))):=by
     simp only[cond_true,r1,bind_some]
    rw[Zca hst]
    cases g' with
    |false=>
     refine⟨(J,s'),Zbu rfl,r2.shape,r2.snd, ?_⟩
     rw[r2.same rfl];exact r3 rfl
    |true=>
     have:=r2.dec rfl;exact ih J s' true (by omega) r2.shape r2.snd (fun e=>nomatch e)
 obtain⟨r,r1,r2,r3,r4⟩:=loop (Fs s0) (([]:List (List Bool)),([]:List (List Bool)),([]:List Bool),()) s0 true (Nat.le_refl _) s2 s3 (fun e=>nomatch e);refine bex (fun x=>x=r) ⟨_,r1,rfl⟩ fun x hx=>⟨r.2,by rw[hx],r2,r3,r4⟩
end Q
namespace Q
open Tr Go
open Option (bind_some)
variable {n:Zay}{q:Za3}
theorem ZgL(_:NQ n q)(C:Ctx (Zat n q) q.1 q.2.2.1 (ZcF n q)){s:ZdW}(hcl: ∀i,i<n.2.2.1.length->Zme n q s i){f:Zlu}{js:List ZaM}(d:Der (Zat n q) q.1 q.2.2.1 (ZcF n q) f js):match f with
  | .rdy _ x r=> ∀i c,(Zab (Zat n q) i c).2.2.2.1=true->(Zab (Zat n q) i c).1=x->r<=(Zab (Zat n q) i c).2.2.1->Opn n q s i c
  | .brd _ i c st=>c+1< (Zad n i).length->(st=false->tt s.1 i c)/\(st=true->c=0/\ts s.2.2.1 i)
  | .lnk _ i c=>Zbh (Zat n q) i=false->c+1< (Zad n i).length->tt s.1 i c
  | .on _ i c=>Abd s i c
  | .rid _ x t=> ∃k d,k<n.2.2.1.length/\d< (Zad n k).length/\tt s.2.1 k d/\(Zab n k d).1=x/\(Zab n k d).2.1=t
  | .arr _ _ _=>True:=by
 have hbd: ∀i c,(Zab (Zat n q) i c).2.2.2.1=true->(Zab n i c).2.2.2.1=true/\ZfC n q (Zab n i c).1=true:=by intro i c e;rw[ZbA]at e;exact(Bool.and_eq_true _ _).mp e
 have hal: ∀i c,(Zab (Zat n q) i c).2.2.2.2.1=true->(Zab n i c).2.2.2.2.1=true/\ZfC n q (Zab n i c).1=true:=by intro i c e;rw[ZbA]at e;exact(Bool.and_eq_true _ _).mp e
 have e1: ∀i c,(Zab (Zat n q) i c).1=(Zab n i c).1:=fun i c=>by rw[ZbA]
 have e2: ∀i c,(Zab (Zat n q) i c).2.1=(Zab n i c).2.1:=fun i c=>by rw[ZbA]
 have e3: ∀i c,(Zab (Zat n q) i c).2.2.1=(Zab n i c).2.2.1:=fun i c=>by rw[ZbA]
 have rl:=ZkO n q;have cll:=Zgg n q
 induction d with
 |init=>
  intro i c hb hs hr;rw[e1]at hs;rw[e3]at hr
  exact⟨(hbd i c hb).1,(hbd i c hb).2, .inl (.inl ⟨hs,hr⟩)⟩
 |here=>trivial
 | @rdyW p h1 h2 h3=>
  intro i c hb hs hr;rw[e1]at hs;rw[e3]at hr
  exact⟨(hbd i c hb).1,(hbd i c hb).2, .inl (.inr ⟨p,h1,h2,hs.symm,hr⟩)⟩
 |arrW=>trivial
 | @board k x r js i c d h1 h2 h3 h4 h5 h6 ih=>
  intro hlast;refine⟨fun _=> ?_,fun e=>nomatch e⟩;have ho:=ih i c h5 h4 h6
  exact((hcl i (by rw[<-rl];exact h1) h3).2 c (by omega)).1 hlast ho
 | @on k i b c st js d h1 h2 ih=>
  rw[cll]at h2;have:=ih (by omega)
  cases st with
  |false=>exact .inr ⟨b,h1,this.1 rfl⟩
  |true=>exact .inl ⟨by omega,(this.2 rfl).2⟩
 | @stay k i c j dd js d h1 h2 h3 ih=>
  intro _;refine⟨(fun e=>nomatch e),fun _=> ?_⟩;obtain⟨a1,a2,a3,a4,a5,a6,a7⟩:=C.net.isLink h1;obtain⟨b1,b2⟩:=a7 rfl;subst b2;rw[rl]at a1 a2;rw[cll]at b1;have hc:c=(Zad n i).length - 1:=by omega
  refine⟨rfl,(hcl j a2 h3).1 ⟨i,a1, ?_, ?_, ?_⟩⟩
  ·rw[<-hc];exact h1
  ·rw[<-hc];exact ih
  ·rw[<-hc];rw[e2,e3]at h2
   exact h2
 | @link k i c j dd js d h1 h2 h3 h4 ih=>
  intro hcn hlast;obtain⟨a1,a2,a3,a4,a5,a6,a7⟩:=C.net.isLink h2;rw[rl]at a1 a2;rw[cll]at a4 a5;have hok:=C.ok d;have hA:tt s.2.1 i c:=((hcl i a1 hok.2.2.2).2 c a4).2 (hal i c h1).1 (hal i c h1).2 ih
  have ho:Opn n q s j dd:=by
   refine⟨(hbd j dd h4).1,(hbd j dd h4).2, .inr ⟨i,c,a1,hA, .inl ⟨?_, .inr ⟨?_,h2⟩⟩⟩⟩
   ·rw[e1,e1]at a6;exact a6
   ·rw[e2,e3]at h3;exact h3
  exact((hcl j a2 hcn).2 dd (by omega)).1 hlast ho
 |linked d h1 ih=>exact fun hl=>⟨fun _=>ih h1 hl,fun e=>nomatch e⟩
 | @ride k i c js d h1 ih=>
  have hok:=C.ok d;have hi:i<n.2.2.1.length:=by rw[<-rl];exact hok.2.1
  have hc:c< (Zad n i).length:=by rw[<-cll];exact hok.2.2.1
  refine⟨i,c,hi,hc,((hcl i hi hok.2.2.2).2 c hc).2 (hal i c h1).1 (hal i c h1).2 ih,(e1 i c).symm,(e2 i c).symm⟩
 |change d ih=>
  obtain⟨k',d',g1,g2,g3,g4,g5⟩:=ih;intro i c hb hs hr;rw[e1]at hs;rw[e3]at hr;refine⟨(hbd i c hb).1,(hbd i c hb).2, .inr ⟨k',d',g1,g3, .inl ⟨by rw[g4,hs], .inl ?_⟩⟩⟩;rw[g4,g5]
  exact hr
 | @rdyV k x t js p d h1 h2 h3 ih=>
  obtain⟨k',d',g1,g2,g3,g4,g5⟩:=ih;intro i c hb hs hr;rw[e1]at hs;rw[e3]at hr;refine⟨(hbd i c hb).1,(hbd i c hb).2, .inr ⟨k',d',g1,g3, .inr ⟨p,h1,by rw[g4,h2],hs.symm, ?_⟩⟩⟩
  rw[g5];exact hr
 |arrR=>trivial
 |arrV=>trivial
def LeO(l:List Int)(s:Nat)(t:Int):Prop:= ∃v,l[s]? =some v/\v≠ -1/\v<=t
structure OI (n:Zay) (q:Za3) (l:List Int):Prop where
 len:l.length=n.1.length
 val: ∀ (s:Nat) v,l[s]? =some v->v= -1\/(0<=v/\ ∃k js,Der (Zat n q) q.1 q.2.2.1 (ZcF n q) (.arr k (s:Int) v) js)
theorem Zot(a b:Int): ∃r:Int,F100 a b=some r/\(r=a\/r=b/\b<=3155932800)/\(0<=b->b<=3155932800->r≠ -1/\r<=b)/\((a= -1\/0<=a)->0<=b-> ∀t,a≠ -1->a<=t->r≠ -1/\r<=t):=by
 unfold F100;by_cases h1:3155932800<b
 ·rw[decide_eq_true h1];exact⟨a,rfl, .inl rfl,fun _ h=>by omega,fun _ _ t h h' =>⟨h,h'⟩⟩
 ·rw[decide_eq_false h1];by_cases h2:0<=a
  ·rw[decide_eq_true h2];by_cases h3:a<=b
   ·rw[decide_eq_true h3];exact⟨a,rfl, .inl rfl,fun _ _=>⟨by omega,h3⟩,fun _ _ t h h' =>⟨h,h'⟩⟩
   ·rw[decide_eq_false h3];exact⟨b,rfl, .inr ⟨rfl,by omega⟩,fun _ _=>⟨by omega,Int.le_refl _⟩,fun _ _ t h h' =>⟨by omega,by omega⟩⟩
  ·rw[decide_eq_false h2];exact⟨b,rfl, .inr ⟨rfl,by omega⟩,fun _ _=>⟨by omega,Int.le_refl _⟩,fun e _ t h h' =>by omega⟩
theorem ZsP{l:List Int}(hO:OI n q l){s:Nat}(hs:s<n.1.length){b:Int}(hb:0<=b)(hd:b<=3155932800-> ∃k js,Der (Zat n q) q.1 q.2.2.1 (ZcF n q) (.arr k (s:Int) b) js):
  ∃r,F100 (l[s]'(by rw[hO.len];exact hs)) b=some r/\OI n q (l.set s r)/\(∀x t,LeO l x t->LeO (l.set s r) x t)/\(b<=3155932800->LeO (l.set s r) s b):=by
 have hl:s<l.length:=by rw[hO.len];exact hs
 obtain⟨r,r1,r2,r3,r4⟩:=Zot (l[s]) b;have hv:=hO.val s _ (List.getElem?_eq_getElem hl);have hv' :l[s]= -1\/0<=l[s]:=hv.imp id fun e=>e.1;refine⟨r,r1,⟨by rw[List.length_set];exact hO.len,fun x v hx=> ?_⟩,fun x t hx=> ?_,fun hm=>⟨r,List.getElem?_set_self hl,r3 hb hm⟩⟩
 ·rcases Zf3 hx with ⟨rfl,rfl⟩ |hx
  ·rcases r2 with e| ⟨e,em⟩
   ·rw[e];exact hv
   ·rw[e];exact .inr ⟨hb,hd em⟩
  ·exact hO.val x v hx
 ·obtain⟨v,v1,v2,v3⟩:=hx;by_cases e:s=x
  ·subst e;rw[List.getElem?_eq_getElem hl]at v1;cases v1;exact⟨r,List.getElem?_set_self hl,r4 hv' hb t v2 v3⟩
  ·exact⟨v,by rw[List.getElem?_set_ne e];exact v1,v2,v3⟩
theorem ZnI     (h : NQ n q){l : List Int}(hO : OI n q l){x t : Int}(ht : 0 <= t /\ t <= 3155932800)(hD : ∀ p ∈ Zbl    n q, p.1 = x -> t + p.2.2.1 <= 3155932800 -> ∃ k js, Der (Zat    n q) q.1 q.2.2.1 (ZcF   n q) (.arr k p.2.1 (t + p.2.2.1)) js) :
    ∃ l', run (fun s6 : List Int × Int =>
       bif decide (s6.2 < (↑(List.length n.1) : Int)) then
       Option.bind (F107 n q x s6.2) fun x7 =>
       bif x7.2 then
       Option.bind (inb s6.2 (List.length s6.1)) fun x8 =>
       Option.bind s6.1[x8]? fun x9 =>
       Option.bind (F100 x9 (IntKind.wrap .i64 (t + x7.1))) fun x10 =>
       Option.bind (inb s6.2 (List.length s6.1)) fun x11 =>
       Option.bind s6.1[x11]? fun _ => some (.inl (List.set s6.1 x11 x10, IntKind.wrap .i64 (s6.2 + (1 : Int))))
       else some (.inl (s6.1, IntKind.wrap .i64 (s6.2 + (1 : Int))))
       else some (.inr s6.1)) (l, (0 : Int)) = some l' /\ OI n q l' /\ (∀ y u, LeO l y u -> LeO l' y u) /\ ∀ p ∈ Zbl    n q, p.1 = x -> t + p.2.2.1 <= 3155932800 -> LeO l' p.2.1.toNat (t + p.2.2.1) := by
  have hst := h.net.sound.stops
  have key : ∃ l', run (fun s6 : List Int × Int =>
       bif decide (s6.2 < (↑(List.length n.1) : Int)) then
       Option.bind (F107 n q x s6.2) fun x7 =>
       bif x7.2 then
       Option.bind (inb s6.2 (List.length s6.1)) fun x8 =>
       Option.bind s6.1[x8]? fun x9 =>
       Option.bind (F100 x9 (IntKind.wrap .i64 (t + x7.1))) fun x10 =>
       Option.bind (inb s6.2 (List.length s6.1)) fun x11 =>
       Option.bind s6.1[x11]? fun _ => some (.inl (List.set s6.1 x11 x10, IntKind.wrap .i64 (s6.2 + (1 : Int))))
       else some (.inl (s6.1, IntKind.wrap .i64 (s6.2 + (1 : Int))))
       else some (.inr s6.1)) (l, (0 : Int)) = some l' /\ OI n q l' /\ (∀ y u, LeO l y u -> LeO l' y u) /\ ∀ p ∈ Zbl    n q, p.1 = x -> t + p.2.2.1 <= 3155932800 -> p.2.1 < (n.1.length : Int) -> LeO l' p.2.1.toNat (t + p.2.2.1) := by
    refine ZaX     n.1.length _ (fun i (st : List Int × Int) => st.2 = (i : Int) /\ OI n q st.1 /\ (∀ y u, LeO l y u -> LeO st.1 y u) /\ ∀ p ∈ Zbl    n q, p.1 = x -> t + p.2.2.1 <= 3155932800 -> p.2.1 < (i : Int) -> LeO st.1 p.2.1.toNat (t + p.2.2.1)) ?_ ?_ _ ⟨rfl, hO, fun _ _ e => e, fun p hp _ _ e => by have := h.net.path p (Zb4.1 hp).1; omega⟩
    · rintro i ⟨l1, j⟩ hi ⟨hj, h1, h2, h3⟩
      simp only at hj h1 h2 h3;subst hj;left;have hil : i < l1.length := by rw [h1.len]; exact hi
      obtain ⟨v, v1, v2⟩ := Zfx         (q := q) h.paths (fun p hp => by have := h.net.path p hp; omega) x (i : Int);simp only [Zax    hi, cond_true, v1, bind_some, Zal       hi (show _ <= 9223372036854775807 by omega)];rcases v2 with ⟨rfl, hno⟩ | ⟨⟨p, p1, p2, p3, p4⟩, h0, hmin⟩
      · refine ⟨_, rfl, rfl, h1, h2, fun p hp a b c => ?_⟩
        by_cases e : p.2.1 = (i : Int)
        · exact (hno p hp a e).elim
        · exact h3 p hp a b (by omega)
      · have hpp := ZhU     h p1
        rw [decide_eq_true h0];have w1 : IntKind.wrap .i64 (t + v) = t + v := Zaj      (by omega) (by omega)
        obtain ⟨r, r1, r2, r3, r4⟩ := ZsP    h1 hi (b := t + v) (by omega) (fun hm => by obtain ⟨k, js, d⟩ := hD p p1 p2 (by omega);rw [p3, p4]at d;exact ⟨k, js, d⟩)
        simp only [cond_true, ZaH     hil, bind_some, List.getElem?_eq_getElem hil, w1, r1];refine ⟨_, rfl, rfl, r2, fun y u e => r3 y u (h2 y u e), fun p' hp' a b c => ?_⟩;by_cases e : p'.2.1 = (i : Int)
        · have hm := hmin p' hp' a e
          obtain ⟨z, z1, z2, z3⟩ := r4 (by omega);exact ⟨z, by rw [e, Int.toNat_natCast]; exact z1, z2, by omega⟩
        · exact r3 _ _ (h3 p' hp' a b (by omega))
    · rintro ⟨l1, j⟩ ⟨hj, h1, h2, h3⟩
      simp only at hj h1 h2 h3;subst hj;simp only [Zaw    , cond_false];exact ⟨_, rfl, h1, h2, h3⟩
  obtain ⟨l', a1, a2, a3, a4⟩ := key;exact ⟨l', a1, a2, a3, fun p hp a b => a4 p hp a b (by have := h.net.path p (Zb4.1 hp).1; omega)⟩
end Q
namespace Q
open Tr Go
open Option (bind_some)
variable {n:Zay}{q:Za3}
theorem ZpW(hfit:Fit n)(h:NQ n q)(hchk:Zlr n q=0)(C:Ctx (Zat n q) q.1 q.2.2.1 (ZcF n q)): ∃out,F95 n q=some (out,0)/\OI n q out/\ ∀ {k:Nat}{s t:Int}{js:List ZaM},Der (Zat n q) q.1 q.2.2.1 (ZcF n q) (.arr k s t) js->LeO out s.toNat t:=by
 have hst:=h.net.sound.stops;have hrn:=h.net.sound.runs;have htm:=h.time
 suffices hsuf: ∃z:List Int×Int,F95 n q=some z/\z.2=0/\OI n q z.1/\ ∀ {k:Nat}{s t:Int}{js:List ZaM},Der (Zat n q) q.1 q.2.2.1 (ZcF n q) (.arr k s t) js->LeO z.1 s.toNat t by obtain⟨⟨out,e⟩,h1,h2,h3,h4⟩:=hsuf;simp only at h2;subst h2;exact⟨out,h1,h3,h4⟩
 unfold F95;rw[ZgF hfit,hchk];simp only[bind_some,decide_true,Bool.not_true,cond_false];refine bex (fun r:List Int=>r=List.replicate n.1.length (-1)) ?_ ?_
 ·refine ZaX n.1.length _ (fun i (st:List Int×Int)=>st=(List.replicate i (-1),(i:Int))) ?_ ?_ _ rfl
  ·rintro i _ hi rfl;left;have hg:Zar (decide (List.length (List.replicate i (-1:Int))+List.length [(-1:Int)]<=Zaq))=some ():=Zbg (by simp;omega);simp only[Zax hi,cond_true,Zal hi (show _<=9223372036854775807 by omega)];erw[hg];simp only[bind_some];exact⟨_,rfl,by rw[List.replicate_succ']⟩
  ·rintro _ rfl;simp only[Zaw,cond_false];exact⟨_,rfl,rfl⟩
 intro l0 hl0;obtain⟨a,ha⟩: ∃a:Nat,q.1=(a:Int):=⟨q.1.toNat,by have:=h.stop;omega⟩;have hal:a<n.1.length:=by have:=h.stop;omega
 have hll:l0.length=n.1.length:=by rw[hl0];simp
 have hal0:a<l0.length:=by omega
 rw[ha];simp only[ZaH hal0,bind_some,List.getElem?_eq_getElem hal0]
 have hO1:OI n q (l0.set a q.2.2.1):=by
  refine⟨by rw[List.length_set,hll],fun s v hv=> ?_⟩;rcases Zf3 hv with ⟨rfl,rfl⟩ |hv
  ·exact .inr ⟨htm.1,0,[],by rw[<-ha];exact .here⟩
  ·rw[hl0]at hv;exact .inl (List.eq_of_mem_replicate (List.mem_of_getElem? hv))
 have hA1:LeO (l0.set a q.2.2.1) a q.2.2.1:=⟨_,List.getElem?_set_self hal0,by omega,Int.le_refl _⟩;obtain⟨l2,w1,w2,w3,w4⟩:=ZnI h hO1 (x:=q.1) (t:=q.2.2.1) htm (fun p hp a b=>⟨0,_, .arrW hp a b⟩);rw[ha]at w1;refine bex (fun r=>r=l2) ⟨_,w1,rfl⟩ fun x hx=> ?_;rw[hx];obtain⟨st,p1,p2,p3,p4⟩:=ZlH h;refine bex (fun r=>r=st) ⟨_,p1,rfl⟩ fun x hx=> ?_;rw[hx];refine bex (fun r:List Int=>OI n q r/\(∀y u,LeO l2 y u->LeO r y u)/\ ∀k d,k<n.2.2.1.length->d< (Zad n k).length->tt st.2.1 k d->LeO r (Zab n k d).1.toNat (Zab n k d).2.1/\ ∀p∈Zbl n q,p.1=(Zab n k d).1->(Zab n k d).2.1+p.2.2.1<=3155932800->LeO r p.2.1.toNat ((Zab n k d).2.1+p.2.2.1)) ?_ ?_
 ·refine ZaX n.2.2.1.length _ (fun i (z:List Int×Int)=>z.2=(i:Int)/\OI n q z.1/\(∀y u,LeO l2 y u->LeO z.1 y u)/\ ∀k d,k<i->d< (Zad n k).length->tt st.2.1 k d->LeO z.1 (Zab n k d).1.toNat (Zab n k d).2.1/\ ∀p∈Zbl n q,p.1=(Zab n k d).1->(Zab n k d).2.1+p.2.2.1<=3155932800->LeO z.1 p.2.1.toNat ((Zab n k d).2.1+p.2.2.1)) ?_ ?_ _ ⟨rfl,w2,fun _ _ e=>e,fun k d hk=>absurd hk (Nat.not_lt_zero k)⟩
  ·rintro i ⟨l3,j⟩ hi ⟨hj,h1,h2,h3⟩;simp only at hj h1 h2 h3;subst hj;left;obtain⟨e1,e2⟩:=Zfi hi;have hcl: (Zad n i).length<=32:=by rw[ZaO hi];exact(h.net.sound.many _ (List.getElem_mem hi)).2
   simp only[Zax hi,cond_true,Zal hi (show _<=9223372036854775807 by omega)];refine Zpc (fun r:List Int=>OI n q r/\(∀y u,LeO l3 y u->LeO r y u)/\ ∀d,d< (Zad n i).length->tt st.2.1 i d->LeO r (Zab n i d).1.toNat (Zab n i d).2.1/\ ∀p∈Zbl n q,p.1=(Zab n i d).1->(Zab n i d).2.1+p.2.2.1<=3155932800->LeO r p.2.1.toNat ((Zab n i d).2.1+p.2.2.1)) ?_ ?_
   rotate_left
   ·rintro r ⟨r1,r2,r3⟩;refine⟨_,rfl,rfl,r1,fun y u e=>r2 y u (h2 y u e),fun k d hk hd ht=> ?_⟩;by_cases e:k=i
    ·subst e;exact r3 d hd ht
    ·obtain⟨b1,b2⟩:=h3 k d (by omega) hd ht;exact⟨r2 _ _ b1,fun p hp a b=>r2 _ _ (b2 p hp a b)⟩
   refine ZaX (Zad n i).length _ (fun c (z:List Int×Int)=>z.2=(c:Int)/\OI n q z.1/\(∀y u,LeO l3 y u->LeO z.1 y u)/\ ∀d,d<c->tt st.2.1 i d->LeO z.1 (Zab n i d).1.toNat (Zab n i d).2.1/\ ∀p∈Zbl n q,p.1=(Zab n i d).1->(Zab n i d).2.1+p.2.2.1<=3155932800->LeO z.1 p.2.1.toNat ((Zab n i d).2.1+p.2.2.1)) ?_ ?_ _ ⟨rfl,h1,fun _ _ e=>e,fun d hd=>absurd hd (Nat.not_lt_zero d)⟩
   ·rintro c ⟨l4,j⟩ hc ⟨hj,g1,g2,g3⟩;simp only at hj g1 g2 g3;subst hj;left;obtain⟨row,b,t1,t2,t3,t4,t5,t6⟩:=ZhQ (l:=st.2.1) (by rw[p2.al];exact hi) (p2.ar i) hc;simp only[e1,bind_some,e2,Zax hc,cond_true,t2,t5,Zal hc (show _<=9223372036854775807 by omega)]
    cases b with
    |false=>
     simp only[Bool.not_false,cond_true];refine⟨_,rfl,rfl,g1,g2,fun d hd ht=> ?_⟩;by_cases e:d=c
     ·subst e;have:=t6.2 ht;cases this
     ·exact g3 d (by omega) ht
    |true=>
     have hs:=h.net.stop hi hc;have htc:=h.net.time hi hc;obtain⟨y,hy⟩: ∃y:Nat,(Zab n i c).1=(y:Int):=⟨(Zab n i c).1.toNat,by omega⟩;have hyl:y<n.1.length:=by omega
     have hy4:y<l4.length:=by rw[g1.len];exact hyl
     obtain⟨hal',k',js,dd⟩:=p3.a i c (t6.1 rfl);have dr:=Der.ride dd hal';rw[ZbA]at dr;simp only at dr;have dr' :=dr;rw[hy]at dr';obtain⟨r,r1,r2,r3,r4⟩:=ZsP g1 hyl (b:=(Zab n i c).2.1) htc.1 (fun _=>⟨k',js, .arrR dr'⟩);obtain⟨l5,v1,v2,v3,v4⟩:=ZnI h r2 (x:=(Zab n i c).1) (t:=(Zab n i c).2.1) ⟨htc.1,by omega⟩ (fun p hp a b=>⟨k',_, .arrV dr hp a b⟩);simp only[Bool.not_true,cond_false,ZeF hc,bind_some];rw[hy]at v1 v4 ⊢;simp only[ZaH hy4,bind_some,List.getElem?_eq_getElem hy4,r1];refine Zpc (fun z=>z=l5) ⟨_,v1,rfl⟩ fun z hz=> ?_;rw[hz];refine⟨_,rfl,rfl,v2,fun y u e=>v3 y u (r3 y u (g2 y u e)),fun d hd ht=> ?_⟩
     by_cases e:d=c
     ·subst e;rw[hy];exact⟨v3 _ _ (r4 (by omega)),v4⟩
     ·obtain⟨b1,b2⟩:=g3 d (by omega) ht;exact⟨v3 _ _ (r3 _ _ b1),fun p hp a b=>v3 _ _ (r3 _ _ (b2 p hp a b))⟩
   ·rintro ⟨l4,j⟩ ⟨hj,g1,g2,g3⟩;simp only at hj g1 g2 g3;subst hj;simp only[e1,bind_some,e2,Zaw,cond_false];exact⟨_,rfl,g1,g2,g3⟩
  ·rintro ⟨l3,j⟩ ⟨hj,h1,h2,h3⟩;simp only at hj h1 h2 h3;subst hj;simp only[Zaw,cond_false];exact⟨_,rfl,h1,h2,h3⟩
 ·rintro out ⟨h1,h2,h3⟩;refine⟨_,rfl,rfl,h1, ?_⟩;intro k s t js d;rw[<-ha]at d
  cases d with
  |here=>
   have e:q.1.toNat=a:=by rw[ha];rfl
   rw[e];exact h2 _ _ (w3 _ _ hA1)
  |arrW b1 b2 b3=>exact h2 _ _ (w4 _ b1 b2 b3)
  |arrR d=>
   obtain⟨k',d',c1,c2,c3,c4,c5⟩:=ZgL h C p4 d;have:=(h3 k' d' c1 c2 c3).1;rw[c4,c5]at this
   exact this
  |arrV d b1 b2 b3=>
   obtain⟨k',d',c1,c2,c3,c4,c5⟩:=ZgL h C p4 d;have:=(h3 k' d' c1 c2 c3).2 _ b1 (by rw[c4];exact b2) (by rw[c5];exact b3);rw[c5]at this;exact this
theorem Zsj{g:ScT}{out:List Int}(C:Ctx (Zat n q) q.1 q.2.2.1 (ZcF n q))(D:Zlv (Zat n q) q.1 q.2.2.1 (ZcF n q) g)(hO:OI n q out)(hc: ∀ {k:Nat}{s t:Int}{js:List ZaM},Der (Zat n q) q.1 q.2.2.1 (ZcF n q) (.arr k s t) js->LeO out s.toNat t):out=ZgT g:=by
 have hl: (ZgT g).length=n.1.length:=D.len;refine List.ext_getElem (by rw[hO.len,hl]) fun s h1 h2=> ?_;have hs:s<n.1.length:=by rw[<-hO.len];exact h1
 have e1: (ZgT g)[s]=arrV g s:=by have:=D.idxA (s:=s) hs;rw[Zah h2]at this;exact Option.some.inj this
 rw[e1];have hv:=hO.val s _ (List.getElem?_eq_getElem h1);have hn:=D.nonneg C s;by_cases e:arrV g s= -1
 ·rcases hv with hv| ⟨h0,k,js,d⟩
  ·rw[hv,e]
  ·have:=D.complete d;exact absurd e this.1
 ·obtain⟨k,js,_,d⟩:=D.sound e;obtain⟨v,v1,v2,v3⟩:=hc d;rw[Int.toNat_natCast,List.getElem?_eq_getElem h1]at v1;have v1:=Option.some.inj v1;rcases hv with hv| ⟨h0,k',js',d'⟩
  ·omega
  ·have:=D.complete d';omega
theorem ZsD{n:Zay}(h:Fit n){q:Za3}(he:Zlr n q≠0):F114 n q=none/\F115 n q=some ((),Zlr n q):=by
 constructor
 ·unfold F114;rw[Zgm h];simp only[bind_some,decide_eq_false he,Bool.not_false,cond_true]
 ·unfold F115;rw[Zgm h];simp only[bind_some,decide_eq_false he,Bool.not_false,cond_true]
theorem Zou{n:Zay}(h:Fit n){q:Za3}(he:Zlr n q≠0):F95 n q=some ([],Zlr n q):=by unfold F95;rw[ZgF h];simp only[bind_some,decide_eq_false he,Bool.not_false,cond_true]
theorem Zvb{n:Zay}(hfit:Fit n){q:Za3}(hw:Whole n)(hqb:qB n.1.length q=true):NQ n q:=by unfold qB inR at hqb;simp only[Bool.and_eq_true,decide_eq_true_eq]at hqb;obtain⟨h1,_,h3,_,_,h6,_⟩:=hqb;exact⟨hw.ok,hfit.paths,h1,h3,h6⟩
theorem ZoH(n:Zay)(q:Za3): (bif q.2.2.2.2.2.2.2.2.2.1 then(Zb2 (Zat n q) q.1).2.2.2.1 else 0)=ZcF n q:=rfl
theorem Zsx{n:Zay}{q:Za3}(hfit:Fit n)(hsz:Whole n->Zo3 n/\Few n)(hc:Zlr n q=0): ∃g,F114 n q=some (g,0)/\Ctx (Zat n q) q.1 q.2.2.1 (ZcF n q)/\Zlv (Zat n q) q.1 q.2.2.1 (ZcF n q) g/\F95 n q=some (ZgT g,0)/\Whole n/\Zo3 n/\Few n/\qB n.1.length q=true/\q.2.2.2.1=false:=by have hw0:=(ZhT.1 (ZhF.1 hc).1).1;obtain⟨hZ,hfew⟩:=hsz hw0;obtain⟨g,g1,C,hw,hqb,hbk,D⟩:=Zsn hfit hfew hZ hc;rw[ZoH]at C D;obtain⟨out,o1,o2,o3⟩:=ZpW hfit (Zvb hfit hw hqb) hc C;have:=Zsj C D o2 o3;rw[this]at o1;exact⟨g,g1,C,D,o1,hw,hZ,hfew,hqb,hbk⟩
end Q
namespace Q
open Tr Go
open Option (bind_some)
def Zk9(x y:ZaM):ZaM:=(x.1,x.2.1,x.2.2.1,x.2.2.2.1,x.2.2.2.2.1,x.2.2.2.2.2.1,IntKind.wrap .i64 (y.2.2.2.2.2.2.1 - IntKind.wrap .i64 (x.2.2.2.2.2.2.2.1 - x.2.2.2.2.2.2.1)),y.2.2.2.2.2.2.1,x.2.2.2.2.2.2.2.2)
def ZoZ:List ZaM->List ZaM
 |x::y::js=>(bif x.1 then x else Zk9 x y)::y::js
 |js=>js
theorem ZmW(x y:ZaM)(js:List ZaM):ZoZ (x::y::js)=(bif x.1 then x else Zk9 x y)::y::js:=rfl
variable {n:Zay}{q:Za3}
def ZuB(n:Zay)(q:Za3)(x:ZaM):Prop:=x.2.2.2.2.1=q.1/\Zbn x=false/\q.2.2.1<=x.2.2.2.2.2.2.1/\(x.1=false->x.2.2.2.2.2.2.1=q.2.2.1)/\(q.2.2.2.2.2.2.2.2.2.1=true->x.1=true->q.2.2.1+(Zb2 n q.1).2.2.2.1<=x.2.2.2.2.2.2.1)
def Zrw(n:Zay)(q:Za3)(x y:ZaM):Prop:=ZbL n x y=0/\(x.1=true->Zbn y=false->ZdA n (ZbU q) x=0)
def ZkU(n:Zay)(q:Za3)(L:List ZaM):Prop:=(∀i,i<L.length->Zg4 n (ZbU q) (lg L i)=0)/\(∀i,i+1<L.length->Zrw n q (lg L i) (lg L (i+1)))/\(0<L.length->ZuB n q (lg L 0))
def ZpK(n:Zay)(q:Za3)(L:List ZaM):Prop:= ∀ks x,L=ks++[x]->x.1=true->ZdA n (ZbU q) x=0
theorem Zpy{ks:List ZaM}{x:ZaM}{i:Nat}(h:i<ks.length):lg (ks++[x]) i=lg ks i:=by unfold lg;rw[List.getElem?_append_left h]
theorem Ztc(ks:List ZaM)(x:ZaM):lg (ks++[x]) ks.length=x:=by unfold lg;simp
theorem Zng:ZkU n q []:=⟨fun i h=>absurd h (Nat.not_lt_zero i),fun _ h=>absurd h (Nat.not_lt_zero _),fun h=>absurd h (Nat.lt_irrefl 0)⟩
theorem Zm9{x:ZaM}(h1:Zg4 n (ZbU q) x=0)(h2:ZuB n q x):ZkU n q [x]:=by
 refine⟨fun i h=> ?_,fun i h=> ?_,fun _=>h2⟩
 ·have:i=0:=by simp at h;omega
  subst this;exact h1
 ·simp at h
theorem Zex{ks:List ZaM}{x y:ZaM}(h:ZkU n q (ks++[x]))(h1:Zg4 n (ZbU q) y=0)(h2:Zrw n q x y):ZkU n q (ks++[x]++[y]):=by
 have hl: (ks++[x]).length=ks.length+1:=by simp
 refine⟨fun i hi=> ?_,fun i hi=> ?_,fun _=> ?_⟩
 ·rw[List.length_append,List.length_singleton,hl]at hi;by_cases e:i<ks.length+1
  ·rw[Zpy (by omega)];exact h.1 i (by omega)
  ·have:i=(ks++[x]).length:=by omega
   rw[this,Ztc];exact h1
 ·rw[List.length_append,List.length_singleton,hl]at hi;by_cases e:i+1<ks.length+1
  ·rw[Zpy (show i< (ks++[x]).length by omega),Zpy (show i+1< (ks++[x]).length by omega)];exact h.2.1 i (by omega)
  ·have e1:i=ks.length:=by omega
   rw[Zpy (show i< (ks++[x]).length by omega)];have:i+1=(ks++[x]).length:=by omega
   rw[this,Ztc,e1,Ztc];exact h2
 ·rw[Zpy (by omega)];exact h.2.2 (by omega)
def Zlu.legs(n:Zay)(q:Za3):Zlu->List ZaM->Prop
 | .rdy _ s r,js=>ZkU n q js/\ ∀i c c',i<n.2.2.1.length->c<c' ->c' < (Zad n i).length->Zbh n i=false->(Zab n i c).1=s->(Zab n i c).2.2.2.1=true->r<=(Zab n i c).2.2.1->ZkU n q (js++[Zdf n i c c' false])
 | .brd _ i c st,js=> ∀c',c<c' ->c' < (Zad n i).length->ZkU n q (js++[Zdf n i c c' st])
 | .lnk _ i c,js=>Zbh n i=false-> ∀c',c<c' ->c' < (Zad n i).length->ZkU n q (js++[Zdf n i c c' false])
 | .on _ i c,js=>ZkU n q js/\ ∃ks b st,js=ks++[Zdf n i b c st]/\i<n.2.2.1.length/\c< (Zad n i).length
 | .rid _ s t,js=>ZkU n q js/\ ∃ks i b c st,js=ks++[Zdf n i b c st]/\i<n.2.2.1.length/\c< (Zad n i).length/\(Zab n i c).2.2.2.2.1=true/\s=(Zab n i c).1/\t=(Zab n i c).2.1
 | .arr _ _ _,js=>ZkU n q js/\ZpK n q js
theorem Zso(s t a b:Int): (Zfn s t a b).1=true->False:=fun e=>Bool.noConfusion e
theorem Zva(n:Zay)(i b c:Nat)(st:Bool): (Zdf n i b c st).1=false->False:=fun e=>Bool.noConfusion e
theorem ZkG(ks:List ZaM)(s t a b:Int):ZpK n q (ks++[Zfn s t a b]):=by intro ls x e hx;have:=List.append_inj' e rfl;have e2:=this.2;simp only[List.cons.injEq,and_true]at e2;rw[<-e2]at hx;exact(Zso _ _ _ _ hx).elim
theorem Zpa{ks:List ZaM}{i b c:Nat}{st:Bool}(h: (Zab n i c).2.2.2.2.1=true):ZpK n q (ks++[Zdf n i b c st]):=by intro ls x e hx;have:=List.append_inj' e rfl;have e2:=this.2;simp only[List.cons.injEq,and_true]at e2;rw[<-e2];exact ZeZ.2 h
theorem Zr8(h:Zdc n)(hs:0<=q.1/\q.1< (n.1.length:Int))(ht:0<=q.2.2.1/\q.2.2.1<=3155932800){f:Zlu}{js:List ZaM}(d:Der n q.1 q.2.2.1 (bif q.2.2.2.2.2.2.2.2.2.1 then(Zb2 n q.1).2.2.2.1 else 0) f js):f.legs n q js:=by
 have hcg:=h.change _ hs.1 hs.2
 have first: ∀ {p:Zcf},p∈n.2.2.2.2.1->p.1=q.1->q.2.2.1+p.2.2.1<=3155932800->ZkU n q [Zfn q.1 p.2.1 q.2.2.1 (q.2.2.1+p.2.2.1)]:=by intro p h1 h2 h3;refine Zm9 ((Zd7 h).2 ⟨p,h1,q.2.2.1,by rw[h2],ht.1,h3⟩).1 ⟨rfl,rfl,Int.le_refl _,fun _=>rfl,fun _ e=>(Zso _ _ _ _ e).elim⟩
 have walk: ∀ {ks:List ZaM}{i b c:Nat}{st:Bool}{p:Zcf},ZkU n q (ks++[Zdf n i b c st])->(Zab n i c).2.2.2.2.1=true->p∈n.2.2.2.2.1->p.1=(Zab n i c).1->i<n.2.2.1.length->c< (Zad n i).length->(Zab n i c).2.1+p.2.2.1<=3155932800->ZkU n q (ks++[Zdf n i b c st]++[Zfn (Zab n i c).1 p.2.1 (Zab n i c).2.1 ((Zab n i c).2.1+p.2.2.1)]):=by intro ks i b c st p h1 h2 h3 h4 h5 h6 h7;exact Zex h1 ((Zd7 h).2 ⟨p,h3,_,by rw[h4],(h.time h5 h6).1,h7⟩).1 ⟨Zuz.2 ⟨rfl,rfl⟩,fun _ _=>ZeZ.2 h2⟩
 have behind: ∀ {ks:List ZaM}{s t a z:Int}{i c c' :Nat},ZkU n q (ks++[Zfn s t a z])->i<n.2.2.1.length->c<c' ->c' < (Zad n i).length->Zbh n i=false->(Zab n i c).1=t->(Zab n i c).2.2.2.1=true->z<=(Zab n i c).2.2.1->ZkU n q (ks++[Zfn s t a z]++[Zdf n i c c' false]):=by intro ks s t a z i c c' h1 h2 h3 h4 h5 h6 h7 h8;exact Zex h1 ((Zeh h).2 ⟨i,c,c',false,rfl,h2,h3,h4,h5, .inr h7⟩).1 ⟨ZqJ.2 ⟨h6.symm,h8⟩,fun e=>(Zso _ _ _ _ e).elim⟩
 induction d with
 |init=>
  refine⟨Zng,fun i c c' h1 h2 h3 h4 h5 h6 h7=> ?_⟩;refine Zm9 ((Zeh h).2 ⟨i,c,c',false,rfl,h1,h2,h3,h4, .inr h6⟩).1 ⟨h5,rfl, ?_,fun e=>(Zva _ _ _ _ _ e).elim,fun e _=> ?_⟩
  ·show q.2.2.1<=(Zab n i c).2.2.1
   cases hc:q.2.2.2.2.2.2.2.2.2.1 with
   |true=>rw[hc]at h7;simp only[cond_true]at h7;omega
   |false=>rw[hc]at h7;simp only[cond_false]at h7;omega
  ·rw[e]at h7
   exact h7
 |here=>exact⟨Zng,fun ks x e=>by simp at e⟩
 |rdyW h1 h2 h3=>exact⟨first h1 h2 h3,fun i c c' a1 a2 a3 a4 a5 a6 a7=>behind (ks:=[]) (first h1 h2 h3) a1 a2 a3 a4 a5 a6 a7⟩
 |arrW h1 h2 h3=>exact⟨first h1 h2 h3,fun a b e=>ZkG [] _ _ _ _ a b e⟩
 |board d h1 h2 h3 h4 h5 h6 ih=>exact fun c' a1 a2=>ih.2 _ _ _ h1 a1 a2 h3 h4 h5 h6
 |on d h1 h2 ih=>exact⟨ih _ h1 h2,_,_,_,rfl,(d.ok h hs ht (by cases q.2.2.2.2.2.2.2.2.2.1<;>simp<;>omega)).2.1,h2⟩
 |stay d h1 h2 h3 ih=>
  intro c' a1 a2;obtain⟨i1,ks,b,st,rfl,i2,i3⟩:=ih;obtain⟨l1,l2,l3,l4,l5,l6,l7⟩:=h.isLink h1
  exact Zex i1 ((Zeh h).2 ⟨_,_,c',true,rfl,l2,a1,a2,h3, .inl rfl⟩).1 ⟨(Zuq h).2 ⟨l6,h1,h2⟩,fun _ e=>absurd e (by simp [Zbn,Zdf])⟩
 |link d h1 h2 h3 h4 ih=>
  intro hcn c' a1 a2;obtain⟨i1,ks,b,st,rfl,i2,i3⟩:=ih;obtain⟨l1,l2,l3,l4,l5,l6,l7⟩:=h.isLink h2
  exact Zex i1 ((Zeh h).2 ⟨_,_,c',false,rfl,l2,a1,a2,hcn, .inr h4⟩).1 ⟨(Zs5 h l1 l4).2 ⟨l6, .inr ⟨h2,h3⟩⟩,fun _ _=>ZeZ.2 h1⟩
 |linked d h1 ih=>exact ih h1
 |ride d h1 ih=>
  obtain⟨i1,ks,b,st,rfl,i2,i3⟩:=ih
  exact⟨i1,ks,_,b,_,st,rfl,i2,i3,h1,rfl,rfl⟩
 |change d ih=>
  obtain⟨i1,ks,i,b,c,st,rfl,i2,i3,i4,rfl,rfl⟩:=ih;refine⟨i1,fun j e e' a1 a2 a3 a4 a5 a6 a7=> ?_⟩
  exact Zex i1 ((Zeh h).2 ⟨j,e,e',false,rfl,a1,a2,a3,a4, .inr a6⟩).1 ⟨(Zs5 h i2 i3).2 ⟨a5.symm, .inl a7⟩,fun _ _=>ZeZ.2 i4⟩
 |rdyV d h1 h2 h3 ih=>
  obtain⟨i1,ks,i,b,c,st,rfl,i2,i3,i4,rfl,rfl⟩:=ih;have:=walk i1 i4 h1 h2 i2 i3 h3
  exact⟨this,fun j e e' a1 a2 a3 a4 a5 a6 a7=>behind this a1 a2 a3 a4 a5 a6 a7⟩
 |arrR d ih=>
  obtain⟨i1,ks,i,b,c,st,rfl,i2,i3,i4,rfl,rfl⟩:=ih
  exact⟨i1,Zpa i4⟩
 |arrV d h1 h2 h3 ih=>
  obtain⟨i1,ks,i,b,c,st,rfl,i2,i3,i4,rfl,rfl⟩:=ih;exact⟨walk i1 i4 h1 h2 i2 i3 h3,fun a b e=>ZkG _ _ _ _ _ a b e⟩
theorem Ztn{L:List ZaM}(h1: ∀i,i<L.length->Zg4 n (ZbU q) (lg L i)=0)(h2: ∀i,i+1<L.length->Zrw n q (lg L i) (lg L (i+1)))(h3:0<L.length->ZhR n (ZbU q) L=0)(h4:ZpK n q L): ∀i,i<L.length->atE n (ZbU q) L i=0:=by
 intro i hi;refine Zkk.2 ⟨h1 i hi, ?_,fun hb=> ?_⟩
 ·cases i with
  |zero=>exact h3 hi
  |succ i=>rw[Zlb];exact(h2 i hi).1
 ·unfold Zh3 at hb;simp only[Bool.and_eq_true,Bool.or_eq_true,decide_eq_true_eq,Bool.not_eq_true']at hb;by_cases e:i+1=L.length
  ·refine h4 (L.take i) (lg L i) ?_ hb.1;have:=List.take_succ_eq_append_getElem hi;rw[e,List.take_length]at this;rw[Zto hi];exact this
  ·exact(h2 i (by omega)).2 hb.1 (hb.2.resolve_left e)
theorem Zd1(x:ZaM)(L:List ZaM)(i:Nat):lg (x::L) (i+1)=lg L i:=by unfold lg;simp
theorem Ztv(h:Zdc n)(hs:0<=q.1/\q.1< (n.1.length:Int))(ht:0<=q.2.2.1/\q.2.2.1<=3155932800)(hb:q.2.2.2.1=false){L:List ZaM}(hL:ZkU n q L)(hT:ZpK n q L): ∀i,i< (ZoZ L).length->atE n (ZbU q) (ZoZ L) i=0:=by
 have hcg:=h.change _ hs.1 hs.2;obtain⟨h1,h2,h3⟩:=hL;have g1: (ZbU q).1=q.1:=rfl;have g2: (ZbU q).2.2.1=q.2.2.1:=rfl;have g3: (ZbU q).2.2.2.1=q.2.2.2.1:=rfl;have g4: (ZbU q).2.2.2.2.2.2.2.2.2.1=q.2.2.2.2.2.2.2.2.2.1:=rfl;have w1:IntKind.wrap .i64 (q.2.2.1+(Zb2 n q.1).2.2.2.1)=q.2.2.1+(Zb2 n q.1).2.2.2.1:=Zaj (by omega) (by omega)
 match L,h1,h2,h3,hT with
 | [],_,_,_,_=>exact fun i hi=>absurd hi (Nat.not_lt_zero i)
 | [x],h1,h2,h3,hT=>
  refine Ztn h1 h2 (fun _=> ?_) hT;obtain⟨a1,a2,a3,a4,a5⟩:=h3 (by simp);have ex:lg [x] 0=x:=rfl;rw[ex]at a1 a2 a3 a4 a5;refine ZfM.2 ?_;rw[g1,g2,g3,g4,w1,hb];show x.2.2.2.2.1=q.1/\Zbn x=false/\_/\_/\(true&&decide (x.2.2.2.2.2.2.1<q.2.2.1))=false/\(q.2.2.2.2.2.2.2.2.2.1&& (x.1&&decide (x.2.2.2.2.2.2.1<q.2.2.1+(Zb2 n q.1).2.2.2.1)))=false;refine⟨a1,a2,by show (!x.1&& (false&&_))=false;simp, ?_,by rw[decide_eq_false (by omega)];rfl, ?_⟩
  ·show (!x.1&& (true&& (!decide (x.2.2.2.2.2.2.1=q.2.2.1))))=false
   cases hx:x.1 with
   |true=>rfl
   |false=>rw[decide_eq_true (a4 hx)];rfl
  ·cases hc:q.2.2.2.2.2.2.2.2.2.1 with
   |false=>rfl
   |true=>
    cases hx:x.1 with
    |false=>rfl
    |true=>rw[decide_eq_false (by have:=a5 hc hx;omega)];rfl
 |x::y::js,h1,h2,h3,hT=>
  rw[ZmW];obtain⟨a1,a2,a3,a4,a5⟩:=h3 (by simp);have ex:lg (x::y::js) 0=x:=rfl;have ey:lg (x::y::js) 1=y:=rfl;rw[ex]at a1 a2 a3 a4 a5
  cases hx:x.1 with
  |true=>
   simp only[cond_true];refine Ztn h1 h2 (fun _=> ?_) hT;refine ZfM.2 ?_;rw[g1,g2,g3,g4,w1,hb,ex,hx];refine⟨a1,a2,rfl,rfl,by rw[decide_eq_false (by omega)];rfl, ?_⟩
   cases hc:q.2.2.2.2.2.2.2.2.2.1 with
   |false=>rfl
   |true=>rw[decide_eq_false (by have:=a5 hc hx;omega)];rfl
  |false=>
   simp only[cond_false];have l0:=h1 0 (by simp);have l1:=h1 1 (by simp);have f0:=(h2 0 (by simp)).1;rw[ex]at l0 f0;rw[ey]at l1 f0;obtain⟨p,hp,a,e,b1,b2⟩:=(Zd7 h).1 ⟨l0,hx⟩;have hpp:=h.path p hp
   cases hy:y.1 with
   |false=>
    obtain⟨p',hp',a',e',_⟩:=(Zd7 h).1 ⟨l1,hy⟩;rw[e,e']at f0
    exact(Zun _ _ _ _ _ _ _ _ _ f0).elim
   |true=>
    obtain⟨j,d,c,st,e',k1,k2,k3,k4,k5⟩:=(Zeh h).1 ⟨l1,hy⟩
    cases st with
    |true=>rw[e,e']at f0;exact(Zs1 _ _ _ _ _ _ _ _ f0).elim
    |false=>
     rw[e,e']at f0;obtain⟨f1,f2⟩:=ZqJ.1 f0;have htm:=h.time k1 (show d< (Zad n j).length by omega);have ha:a=q.2.2.1:=by have:=a4 hx;rw[e]at this;exact this
     have eS:Zk9 x y=Zfn p.1 p.2.1 ((Zab n j d).2.2.1 - p.2.2.1) ((Zab n j d).2.2.1 - p.2.2.1+p.2.2.1):=by rw[e,e'];unfold Zk9 Zfn Zdf;simp only;rw[Zaj (x:=a+p.2.2.1 - a) (by omega) (by omega),Zaj (by omega) (by omega)];rw[show (Zab n j d).2.2.1 - (a+p.2.2.1 - a)=(Zab n j d).2.2.1 - p.2.2.1 by omega,show (Zab n j d).2.2.1 - p.2.2.1+p.2.2.1=(Zab n j d).2.2.1 by omega]
     rw[eS];refine Ztn (fun i hi=> ?_) (fun i hi=> ?_) (fun _=> ?_) (fun ks z ez hz=> ?_)
     ·cases i with
      |zero=>exact((Zd7 h).2 ⟨p,hp,_,rfl,by omega,by omega⟩).1
      |succ i=>rw[Zd1];have:=h1 (i+1) hi;rw[Zd1]at this;exact this
     ·cases i with
      |zero=>
       show Zrw n q (Zfn _ _ _ _) y;rw[e']
       exact⟨ZqJ.2 ⟨f1,by omega⟩,fun e=>(Zso _ _ _ _ e).elim⟩
      |succ i=>rw[Zd1,Zd1];have:=h2 (i+1) hi;rw[Zd1,Zd1]at this;exact this
     ·refine ZfM.2 ?_;rw[g1,g2,g3,g4,w1,hb];have hq1:p.1=q.1:=by rw[e]at a1;exact a1
      refine⟨hq1,rfl, ?_, ?_, ?_, ?_⟩
      ·show (true&& (decide (1< (y::js).length+1) && (y.1&& !decide (y.2.2.2.2.2.2.1=(Zab n j d).2.2.1 - p.2.2.1+p.2.2.1))))=false;rw[e'];have:decide ((Zdf n j d c false).2.2.2.2.2.2.1=(Zab n j d).2.2.1 - p.2.2.1+p.2.2.1)=true:=decide_eq_true (by show (Zab n j d).2.2.1=_;omega);rw[this];simp
      ·have:decide ((Zfn p.1 p.2.1 ((Zab n j d).2.2.1 - p.2.2.1) ((Zab n j d).2.2.1 - p.2.2.1+p.2.2.1)::y::js).length=1)=false:=decide_eq_false (by simp);rw[this];simp
      ·show (true&&decide ((Zab n j d).2.2.1 - p.2.2.1<q.2.2.1))=false;rw[decide_eq_false (by omega)];rfl
      ·show (_&& (false&&_))=false;simp
     ·cases ks with
      |nil=>simp at ez
      |cons k ks=>
       rw[List.cons_append,List.cons.injEq]at ez;exact hT (x::ks) z (by rw[List.cons_append,ez.2]) hz
theorem ZtU(n:Zay): ∀ (L:List ZaM) (w:Bool) (out:List Zeq),(∀x∈L,x.1=true->Za0 n x=true)->(∀x∈L,Zbn x=true->x.1=true)->(0<L.length->Zbn (lg L 0)=true->w=true)->(∀i,i+1<L.length->Zbn (lg L (i+1))=true->(lg L i).1=true)->(Zbq n L w out).2=0
 | [],_,_,_,_,_,_=>rfl
 |x::L,w,out,h1,h2,h3,h4=>by
  rw[Zdu];have hx0:lg (x::L) 0=x:=rfl
  rw[if_neg (fun h=>by have:=h1 x (by simp) h.1;rw[h.2]at this;cases this),if_neg (fun h=>by
   rcases h.2 with e|e
   ·have:=h2 x (by simp) h.1;rw[e]at this;cases this
   ·have:=h3 (by simp) (by rw[hx0];exact h.1);rw[e]at this;cases this)]
  have hn:0<L.length->Zbn (lg L 0)=true->x.1=true:=fun hl hs=>by have:=h4 0 (by simpa using hl) (by rw[Zd1];exact hs);rw[hx0]at this;exact this
  have hr: ∀i,i+1<L.length->Zbn (lg L (i+1))=true->(lg L i).1=true:=fun i hi hs=>by have:=h4 (i+1) (by simpa using hi) (by rw[Zd1];exact hs);rw[Zd1]at this;exact this
  by_cases hx:x.1=true
  ·rw[if_pos hx];exact ZtU n L true _ (fun y hy=>h1 y (by simp [hy])) (fun y hy=>h2 y (by simp [hy])) (fun _ _=>rfl) hr
  ·rw[if_neg hx];exact ZtU n L false _ (fun y hy=>h1 y (by simp [hy])) (fun y hy=>h2 y (by simp [hy])) (fun hl hs=>absurd (hn hl hs) hx) hr
theorem Ztx(h:Zdc n){L:List ZaM}(ha: ∀i,i<L.length->atE n (ZbU q) L i=0): (Zbq n L false []).2=0:=by
 have hg: ∀x∈L,Zg4 n (ZbU q) x=0:=by intro x hx;obtain⟨i,hi,rfl⟩:=List.getElem_of_mem hx;have:=(Zkk.1 (ha i hi)).1;rw[Zto hi]at this;exact this
 have hst: ∀x∈L,Zbn x=true->x.1=true:=by
  intro x hx hs
  cases e:x.1 with
  |true=>rfl
  |false=>
   obtain⟨p,hp,a,e',_⟩:=(Zd7 h).1 ⟨hg x hx,e⟩;rw[e']at hs;cases hs
 refine ZtU n L false [] (fun x hx hr=>((ZhI (hg x hx)).2.2.1 hr).1) hst (fun h0 hs=> ?_) (fun i hi hs=> ?_)
 ·have h2:ZhR n (ZbU q) L=0:=(Zkk.1 (ha 0 h0)).2.1;rw[(ZfM.1 h2).2.1]at hs;cases hs
 ·cases e: (lg L i).1 with
  |true=>rfl
  |false=>
   have hb:=Zkk.1 (ha (i+1) hi);have hf:=hb.2.1;rw[Zlb]at hf;obtain⟨p,hp,a,e',_⟩:=(Zd7 h).1 ⟨(Zkk.1 (ha i (by omega))).1,e⟩;have hr: (lg L (i+1)).1=true:=hst _ (by rw[Zto hi];exact List.getElem_mem hi) hs;obtain⟨j,d,c,st,e2,_⟩:=(Zeh h).1 ⟨hb.1,hr⟩;rw[e2]at hs;have:st=true:=hs;subst this;rw[e',e2]at hf;exact(Zs1 _ _ _ _ _ _ _ _ hf).elim
end Q
namespace Q
open Tr Go
open Option (bind_some)
theorem Ch.len{lb:List ZoT}{l:Int}{js:List ZaM}(h:Ch lb l js): (js.length:Int)<=l+1:=by
 induction h with
 |nil=>simp
 |cons _ h2 _ ih=>simp only[List.length_append,List.length_cons,List.length_nil];omega
theorem Zsf{f:ScT}{step:ScT×Int×List ZaM->Option ((ScT×Int×List ZaM) ⊕ (ScT×List ZaM))}
  (h1: ∀back,step (f, -1,back)=some (.inr (f,back)))
  (h2: ∀ (l:Nat) x p back,f.2.2.1[l]? =some (x,p,())->back.length<4294967296->step (f,(l:Int),back)=some (.inl (f,p,back++[x]))) {l:Int}{js:List ZaM} (h:Ch f.2.2.1 l js):
  ∀back,back.length+js.length<4294967296->run step (f,l,back)=some (f,back++js.reverse):=by
 induction h with
 |nil=>intro back _;rw[Zbu (h1 back)];simp
 |cons e _ _ ih=>
  intro back hb;simp only[List.length_append,List.length_cons,List.length_nil]at hb;rw[Zca (h2 _ _ _ back e (by omega)),ih _ (by simp;omega)];simp
theorem Zl4{f:ScT}(hlb:f.2.2.1.length<4000000000){l:Int}{js:List ZaM}(h:Ch f.2.2.1 l js):F120 f l=some (f,(ZoZ js,())):=by
 have hlen:=h.len;have hlt:=h.lt;unfold F120
 have hbk:run (fun s0:ScT×Int×List ZaM=>
   bif !decide (s0.2.1=(-1:Int)) then
    Option.bind (inb s0.2.1 (List.length s0.1.2.2.1)) fun x1=>
    Option.bind s0.1.2.2.1[x1]? fun x2=>
    Option.bind (Zar (decide (List.length s0.2.2+List.length [x2.1]<=Zaq))) fun _=>
    Option.bind (inb s0.2.1 (List.length s0.1.2.2.1)) fun x4=>
    Option.bind s0.1.2.2.1[x4]? fun x5=>
    some (.inl (s0.1,x5.2.1,s0.2.2++[x2.1]))
   else some (.inr (s0.1,s0.2.2))) (f,l,[])=some (f,js.reverse):=by
  have:=Zsf (step:=fun s0:ScT×Int×List ZaM=>
   bif !decide (s0.2.1=(-1:Int)) then
    Option.bind (inb s0.2.1 (List.length s0.1.2.2.1)) fun x1=>
    Option.bind s0.1.2.2.1[x1]? fun x2=>
    Option.bind (Zar (decide (List.length s0.2.2+List.length [x2.1]<=Zaq))) fun _=>
    Option.bind (inb s0.2.1 (List.length s0.1.2.2.1)) fun x4=>
    Option.bind s0.1.2.2.1[x4]? fun x5=>
    some (.inl (s0.1,x5.2.1,s0.2.2++[x2.1]))
   else some (.inr (s0.1,s0.2.2))) (fun back=>rfl) (fun l x p back e hb=> ?_) h [] (by simp;omega)
  ·simpa using this
  ·have hl:=(List.getElem?_eq_some_iff.1 e).1;have hg:Zar (decide (List.length back+List.length [x]<=Zaq))=some ():=Zbg (by simp;omega);simp only[decide_eq_false (show¬ (l:Int)= -1 by omega),Bool.not_false,cond_true,ZaH hl,bind_some,e,hg]
 refine ZcB (fun r=>r=(f,js.reverse)) ⟨_,hbk,rfl⟩ ?_;rintro _ rfl;have hjl:js.length<4000000000:=by omega
 have hm: (Zaq:Int)=4294967296:=by simp [Zaq]
 have hg:Zar (decide ((0:Int)<=(js.reverse.length:Int)/\(js.reverse.length:Int)<=(js.reverse.length:Int)/\(js.reverse.length:Int)<=(Zaq:Int)))=some ():=by rw[decide_eq_true (by rw[hm,List.length_reverse];omega)];rfl
 erw[hg];simp only[bind_some];refine ZcB (fun r=>r=(f,js)) ?_ ?_
 ·refine ZaX js.length _ (fun i (st:ScT×List ZaM×List ZaM×Int)=>st=(f,js.reverse,js.reverse.take (js.length - i)++(js.reverse.take i).reverse,(i:Int))) ?_ ?_ _ (by simp)
  ·rintro i _ hi rfl;left;have hir:i<js.reverse.length:=by simpa using hi
   have hl2: (js.reverse.take (js.length - i)++(js.reverse.take i).reverse).length=js.length:=by simp;omega
   have w1:IntKind.wrap .i64 (IntKind.wrap .i64 ((js.reverse.length:Int) - 1) - (i:Int))=((js.length - 1 - i:Nat):Int):=by rw[List.length_reverse,Zaj (x:=(js.length:Int) - 1) (by omega) (by omega),Zaj (by omega) (by omega)];omega
   have hk:js.length - 1 - i< (js.reverse.take (js.length - i)++(js.reverse.take i).reverse).length:=by rw[hl2];omega
   have hi2:i<js.reverse.length:=hir;simp only[Zax hir,cond_true,ZaH hir,bind_some,List.getElem?_eq_getElem hir,w1,ZaH hk,List.getElem?_eq_getElem hk,Zal hir (show _<=9223372036854775807 by rw[List.length_reverse];omega)];refine⟨_,rfl, ?_⟩;have hkr:js.length - (i+1)<js.reverse.length:=by rw[List.length_reverse];omega
   have e:js.reverse.take (js.length - i)=js.reverse.take (js.length - (i+1))++[js.reverse[js.length - (i+1)]]:=by rw[show js.length - i=(js.length - (i+1))+1 by omega];exact List.take_succ_eq_append_getElem hkr
   have ek:js.length - 1 - i=(js.reverse.take (js.length - (i+1))).length:=by rw[List.length_take];omega
   rw[e,List.append_assoc,ek,List.set_append_right _ _ (Nat.le_refl _),Nat.sub_self,List.singleton_append,List.set_cons_zero];rw[List.take_succ_eq_append_getElem hir,List.reverse_append];rfl
  ·rintro _ rfl;have:decide ((js.length:Int)< (js.reverse.length:Int))=false:=by rw[List.length_reverse];exact Zaw _
   simp only[this,cond_false];have e:js.reverse.take js.length=js.reverse:=by rw[<-List.length_reverse,List.take_length]
   exact⟨_,rfl,by rw[e];simp⟩
 ·rintro _ rfl
  match js with
  | []=>rfl
  | [x]=>rfl
  |x::y::js' =>
   have h1:decide ((1:Int)< ((x::y::js').length:Int))=true:=decide_eq_true (by simp;omega);have i0:inb (0:Int) (x::y::js').length=some 0:=ZaH (i:=0) (by simp);have i1:inb (1:Int) (x::y::js').length=some 1:=ZaH (i:=1) (by simp);simp only[h1,cond_true,i0,i1,bind_some,List.getElem?_cons_zero,List.getElem?_cons_succ,List.set_cons_zero];rw[ZmW]
   cases hx:x.1 with
   |true=>rfl
   |false=>simp only[Bool.not_false,cond_false,cond_true];unfold Zk9;rw[hx]
theorem Der.rid_last{n:Zay}{s0 t0 w:Int}{k:Nat}{s t:Int}{js:List ZaM}(d:Der n s0 t0 w (.rid k s t) js): ∃ks x,js=ks++[x]/\x.2.2.2.2.2.2.2.1=t/\x.2.2.2.2.2.1=s:=by
 cases d with
 |ride d _=>
  cases d with
  |on d _ _=>exact⟨_,_,rfl,rfl,rfl⟩
theorem Der.arr_last{n:Zay}{s0 t0 w:Int}{k:Nat}{s t:Int}{js:List ZaM}(d:Der n s0 t0 w (.arr k s t) js): (js=[]/\t=t0/\s=s0)\/ ∃ks x,js=ks++[x]/\x.2.2.2.2.2.2.2.1=t/\x.2.2.2.2.2.1=s:=by
 cases d with
 |here=>exact .inl ⟨rfl,rfl,rfl⟩
 |arrW=>exact .inr ⟨[],_,rfl,rfl,rfl⟩
 |arrR d=>exact .inr d.rid_last
 |arrV=>exact .inr ⟨_,_,rfl,rfl,rfl⟩
theorem Zrj(ks:List ZaM)(x:ZaM): ∃ks' x',ZoZ (ks++[x])=ks' ++[x']/\x'.2.2.2.2.2.2.2.1=x.2.2.2.2.2.2.2.1/\x'.2.2.2.2.2.1=x.2.2.2.2.2.1:=by
 match ks with
 | []=>exact⟨[],x,rfl,rfl,rfl⟩
 | [y]=>exact⟨[_],x,rfl,rfl,rfl⟩
 |y::z::ks' =>exact⟨_::z::ks',x,rfl,rfl,rfl⟩
def Zuw(q:Za3)(L:List ZaM):Int:=if L.length=0 then q.2.2.1 else(lg L (L.length - 1)).2.2.2.2.2.2.2.1
theorem Zkq(q:Za3){L:List ZaM}(hl:L.length<9000000000):F33 q (L,())=some (Zuw q L):=by
 unfold F33 Zuw;by_cases h:L.length=0
 ·rw[if_pos h,decide_eq_true (show ((L.length:Int)=0) by omega)];rfl
 ·rw[if_neg h,decide_eq_false (show¬ ((L.length:Int)=0) by omega)];have w1:IntKind.wrap .i64 ((L.length:Int) - 1)=((L.length - 1:Nat):Int):=by rw[Zaj (by omega) (by omega)];omega
  simp only[cond_false,w1,Zet (show L.length - 1<L.length by omega),bind_some]
theorem ZsY(ks:List ZaM)(x:ZaM):lg (ks++[x]) ((ks++[x]).length - 1)=x:=by unfold lg;simp
variable {n:Zay}{q:Za3}
theorem ZkM(h:Fit n)(he:Zlr n q≠0):F111 n q=some (([],()),Zlr n q):=by
 obtain⟨h1,h2⟩:=ZsD h he;unfold F111
 have h3: (F114S.f (n,q,())).isSome=false:=by show (F114 n q).isSome=false;rw[h1];rfl
 rw[h3,h2];simp only[cond_false,bind_some,decide_eq_false he,Bool.not_false,cond_true]
theorem Zjq{g:ScT}(h:F114 n q=some (g,0))(he:q.1=q.2.1):F111 n q=some (([],()),0):=by unfold F111;rw[Zif h,h];simp only[cond_true,bind_some,decide_true,Bool.not_true,cond_false,decide_eq_true he]
theorem Zjn{n0:Zay}{g:ScT}{s0 t0 w:Int}(D:Zlv n0 s0 t0 w g)(h:F114 n q=some (g,0))(he:q.1≠q.2.1){a:Nat}(ha:q.2.1=(a:Int))(hal:a<n0.1.length)(hv:arrV g a= -1):F111 n q=some (([],()),23):=by
 have hl:a<g.2.2.2.1.length:=by rw[D.si.pl];exact hal
 unfold F111;rw[Zif h,h];have e1: (g.2.2.2.1[a]).1= -1:=by rw[<-hv];unfold arrV Zsd;rw[Zak hl]
 simp only[cond_true,bind_some,decide_true,Bool.not_true,cond_false,decide_eq_false he];rw[ha];simp only[ZaH hl,bind_some,List.getElem?_eq_getElem hl,e1,decide_true,cond_true]
theorem ZjH{n0:Zay}{g:ScT}{s0 t0 w:Int}(D:Zlv n0 s0 t0 w g)(h:F114 n q=some (g,0))(he:q.1≠q.2.1){a:Nat}(ha:q.2.1=(a:Int))(hal:a<n0.1.length)(hv:arrV g a≠ -1):
  ∃k js,Der n0 s0 t0 w (.arr k (a:Int) (arrV g a)) js/\F111 n q=some ((ZoZ js,()),0):=by
 obtain⟨k,js,hch,hd⟩:=D.sound hv;refine⟨k,js,hd, ?_⟩;have hl:a<g.2.2.2.1.length:=by rw[D.si.pl];exact hal
 unfold F111;rw[Zif h,h];have e1: (g.2.2.2.1[a]).1=arrV g a:=by unfold arrV Zsd;rw[Zak hl]
 have e2: (Zsd g a).2.2.2.1=(g.2.2.2.1[a]).2.2.2.1:=by unfold Zsd;rw[Zak hl]
 rw[e2]at hch;simp only[cond_true,bind_some,decide_true,Bool.not_true,cond_false,decide_eq_false he];rw[ha];simp only[ZaH hl,bind_some,List.getElem?_eq_getElem hl,e1,decide_eq_false hv,cond_false,Zl4 D.lab hch]
theorem Zpm(L:List ZaM)(hc:Zlt n q=0)(h0:L.length≠0)(ha: ∀i,i<L.length->atE n q L i=0)(hg: (Zbq n L false []).2=0)(hb:q.2.2.2.1=false)(ht: (lg L (L.length - 1)).2.2.2.2.2.1=q.2.1): (Zeu n q L).2=0\/(Zeu n q L).1=((L.length - 1:Nat):Int)/\((Zeu n q L).2=33\/(Zeu n q L).2=32\/(Zeu n q L).2=34):=by
 have he:Zp9 n q L=0\/Zp9 n q L=33\/Zp9 n q L=32\/Zp9 n q L=34:=by
  unfold Zp9 Zsp ZpB;rw[decide_eq_true ht,hb,decide_eq_true hg];simp only[Bool.not_true,cond_false,Bool.false_and]
  cases decide (q.2.2.2.2.1< (ZeH L:Int)) with
  |true=>simp
  |false=>
   cases decide (q.2.2.2.2.2.1<Zr3 L) with
   |true=>simp
   |false=>
    cases decide (8< (Zbq n L false []).1.length) with
    |true=>simp
    |false=>
     simp only[cond_false];split
     ·next r _=>cases r.2.2<;>simp
     ·simp
 have hf:ZaA L.length (atE n q L)=none:=ZaE.2 ha;unfold Zeu;rw[decide_eq_true hc,decide_eq_false h0,hf];simp only[Bool.not_true,cond_false];by_cases e:Zp9 n q L=0
 ·rw[decide_eq_true e];exact .inl rfl
 ·rw[decide_eq_false e];exact .inr ⟨rfl,he.resolve_left e⟩
theorem Zoa(n:Zay)(h:ZnG Y31 n)(q:Za3):F31 n q=some true:=by
 unfold F31;obtain⟨bb,hb1,hb2⟩:=Zq3 h;rw[hb1]
 cases bb with
 |true=>simp only[bind_some,cond_true,Zb1]
 |false=>
  obtain⟨hfit,hsz⟩:=hb2 rfl;simp only[bind_some,cond_false];by_cases hc:Zlr n q=0
  rotate_left
  ·rw[ZkM hfit hc,Zou hfit hc];simp only[bind_some,decide_eq_false hc,Bool.not_false,cond_true,decide_true,List.length_nil,Zb1];rfl
  obtain⟨g,g1,C,D,r1,hw,hZ,hfew,hqb,hbk⟩:=Zsx hfit hsz hc;rw[r1];have hqb' :=hqb;unfold qB at hqb';simp only[Bool.and_eq_true,decide_eq_true_eq,Zcz]at hqb';obtain⟨q1,q2,q3,_⟩:=hqb';obtain⟨a,ha⟩: ∃a:Nat,q.2.1=(a:Int):=⟨q.2.1.toNat,by omega⟩;have hal:a<n.1.length:=by omega
  have hidx:idx (ZgT g) q.2.1=some (arrV g a):=by rw[ha];exact D.idxA (s:=a) hal
  have hnn:=D.nonneg C a;have hF:n.2.2.2.2.2.1.1.length<=4096:=hfew.prods;have hck:=(ZhF.1 hc).1;by_cases he:q.1=q.2.1
  ·
   have hd:=D.complete (s:=a) (k:=0) (t:=q.2.2.1) (js:=[]) (by rw[<-ha, <-he];exact .here);obtain⟨k,js,_,d⟩:=D.sound hd.1;have hq:=d.after C;have hv:arrV g a=q.2.2.1:=by have:=hd.2;omega
   rw[Zjq g1 he];simp only[bind_some,decide_true,Bool.not_true,cond_false,hidx,hv];rw[decide_eq_false (show¬q.2.2.1<0 by omega)];obtain⟨k',k1,k2⟩:=ZiK hw.sound hfit.paths (q:=q) (Zcz.2 q1) (L:=[]) (by simp);have hk:k' =0:=k2.2 fun i hi=>absurd hi (Nat.not_lt_zero i)
   have hce:Zeu n q []=(0,0):=by unfold Zeu;rw[decide_eq_true hck,decide_eq_true he];rfl
   rw[Zkq q (L:=[]) (by simp),k1,Zja hfit hF q [] (by simp),hk,hce];have e0:Zuw q []=q.2.2.1:=rfl;rw[e0];simp only[cond_false,bind_some,decide_true,Bool.not_true,List.length_nil,Zb1];simp [he]
  ·by_cases hv:arrV g a= -1
   ·rw[Zjn D g1 he ha hal hv];simp only[bind_some,decide_true,Bool.not_true,cond_false,hidx,hv,List.length_nil,Zb1];rfl
   ·obtain⟨k,js,d,e1⟩:=ZjH D g1 he ha hal hv;rw[e1];simp only[bind_some,decide_true,Bool.not_true,cond_false,hidx];rw[decide_eq_false (show¬arrV g a<0 by omega)];simp only[cond_false];by_cases hlen:200< (ZoZ js).length
    ·rw[decide_eq_true (show (200:Int)< ((ZoZ js).length:Int) by omega)];simp only[cond_true,Zb1,bind_some]
    rw[decide_eq_false (show¬ (200:Int)< ((ZoZ js).length:Int) by omega)];obtain⟨l1,l2⟩:=Zr8 C.net C.stop C.time d;have hat:=Ztv C.net C.stop C.time hbk l1 l2;have hat' : ∀i,i< (ZoZ js).length->atE n q (ZoZ js) i=0:=fun i hi=>ZsO.1 (hat i hi)
    have hgo: (Zbq n (ZoZ js) false []).2=0:=by have:=Ztx C.net hat;rw[Zed]at this;exact this
    rcases d.arr_last with ⟨_,_,e⟩ | ⟨ks,x,rfl,x1,x2⟩
    ·exact absurd (e.symm.trans ha.symm) he
    obtain⟨ks',x',e',x3,x4⟩:=Zrj ks x;rw[e']at hlen hat' hgo ⊢;have hne: (ks' ++[x']).length≠0:=by simp
    have hend:Zuw q (ks' ++[x'])=arrV g a:=by unfold Zuw;rw[if_neg hne,ZsY,x3,x1]
    have hto: (lg (ks' ++[x']) ((ks' ++[x']).length - 1)).2.2.2.2.2.1=q.2.1:=by rw[ZsY,x4,x2,ha]
    obtain⟨k',k1,k2⟩:=ZiK hw.sound hfit.paths (q:=q) (Zcz.2 q1) (L:=ks' ++[x']) (by omega);have hk:=k2.2 hat';have w1:IntKind.wrap .i64 (((ks' ++[x']).length:Int) - 1)=(((ks' ++[x']).length - 1:Nat):Int):=by rw[Zaj (by omega) (by omega)];omega
    have hce:=Zpm (ks' ++[x']) hck hne hat' hgo hbk hto;rw[Zkq q (by omega),k1,Zja hfit hF q _ (by omega),hk,hend,w1,Zet (show (ks' ++[x']).length - 1< (ks' ++[x']).length by omega)];generalize Zeu n q (ks' ++[x'])=ce at hce ⊢;simp only[cond_false,bind_some,decide_true,Bool.not_true,hto,Zb1,decide_eq_false he];rw[decide_eq_true (show (0:Int)< ((ks' ++[x']).length:Int) by omega)];simp only[cond_true,bind_some,cond_false];rcases hce with h0| ⟨h1,h0|h0|h0⟩
    ·rw[decide_eq_true h0];rfl
    ·rw[decide_eq_true h1,h0];rfl
    ·rw[decide_eq_true h1,h0];rfl
    ·rw[decide_eq_true h1,h0];rfl
theorem journeys42P(x:ZdD F31A)(h:Zko F31A x):F31 x.1 x.2.1=some true:=Zoa _ h.1 _
end Q
