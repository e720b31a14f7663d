/- Slices whose elements are addresses or slices of our own: the operations on them. Conditions: the table of types is the program's. -/
import Derived.Test.YtdpenljjnfmgiaaGreatTrX
import Derived.Test.YtdpenljjnfmgiaaGreatTrSc
import Derived.Test.YtdpenljjnfmgiaaGreatTrSr
open Array renaming length_toList ->Vh,toList_inj ->Vm
open Bool renaming and_eq_true ->Vv
open Go.Builtin renaming zeroCells ->Vg,clear_ ->Vk,firstCells ->Vo,len_ ->Vga
open Go.Instr renaming sureAddr ->Vt,sliceAt ->Vfa
open List renaming replicate ->Ve,length_append ->Vf,take_append_drop ->Vi,getElem?_eq_some_iff ->Vj,size_toArray ->Vl,flatten_append ->Vn,drop_eq_getElem_cons ->Vr,mem_of_mem_take ->Vu,length_drop ->Vx,length_take ->Vy,length_set ->Vz,drop_drop ->Vca,drop_left ->Vda
open Nat renaming le_refl ->Vd,add_zero ->Vs,mul_one ->Vw,min_eq_left ->Vba
open Option renaming map_none ->Vaa
open Prod.mk renaming inj ->Vp,injEq ->Vea
open Go.Result renaming andThen_ok ->Va
open Go.Sem renaming run_bind ->Vb,run_pure ->Vc
open Go.Value renaming slice ->Vq
namespace Tr
open Go
section ops
variable {P:Program}{E:Env}{B:Zbr}{H:AH}{w:World}{g:Gh}{ow:Nat->Nat->Prop}{nid:Nat}{a:Act}{F:Nat->AV}{v:AV}{patch:ZaY}{rd:List Nat}{o:Oper}
def Zoy(w:World)(g:Gh)(J:Nat->Prop)(l:List AV)(v:Value):Prop:=
 (l=[]/\v= .slice none 0 0)\/ ∃b cap cs e hd,J b/\v= .slice (some ⟨b,0,none⟩) l.length cap/\w.heap[b]? =some (.cells cs e (0,0))/\l.length<=cap/\cap<=cs.size/\Fa (fun a v=>VR1 w g a v/\v.oneCell' =true) l hd/\hd<+:cs.toList
theorem Zkv{t:Ty}{x:AV}{val:Value}{l:List AV}{ids m m' :List Nat}(hR:RH B H w g ow)(hx:VR w g x val)(h: (Zop t x).run H m=some ((l,ids),m')):Zoy w g (ZaC H ow ids) l val:=by
 unfold Zop at h;split at h
 ·simp only[Zab,Vea]at h;obtain⟨⟨rfl,rfl⟩,_⟩:=h;exact .inl ⟨rfl,hx.nils⟩
 ·rename_i id;rw[Zag]at h;split at h
  ·rename_i t' l' hH;simp only[Zae,Zab,Zaa,and_false,or_false,Vea,beq_iff_eq]at h;obtain⟨rfl,⟨rfl,rfl⟩,_⟩:=h;obtain⟨hk,hs⟩:=hx.vw;obtain⟨_,hty,h1,hO⟩:=hR.objs id _ hH;rcases hO with ⟨h2,h3,h4⟩ | ⟨b,cap,cs,e,hd,h2,h3,h4,h5,h6,h7,h8,h9⟩
   ·exact .inl ⟨h2,hs.trans h4⟩
   ·exact .inr ⟨b,cap,cs,e,hd,⟨id,by simp,by rw[hH];simp,h3⟩,hs.trans h4,h5,h6,h7,h8,h9⟩
  ·simp [Zaa]at h
 ·simp [Zaa]at h
theorem Zf6{w' :World}{J:Nat->Prop}{t:Ty}{l:List AV}{val:Value}{r:Result Next}(hR:RH B H w g ow)(hnk: ¬g.K nid)(h1:t.size=1/\t.agg=false)(hheap: ∀k,k<w.heap.size->w'.heap[k]? =w.heap[k]?)(hsz:w.heap.size<=w'.heap.size)(hos:w'.os=w.os)(htape:w'.tape=w.tape)(hout:Zjn w' w)
  (hr:r= .ok (.value val) w') (hc:Zoy w' g (fun b=>J b\/(w.heap.size<=b/\b<w'.heap.size)) l val) (hJ: ∀b,J b-> ¬g.I b/\b<w.heap.size/\(B.own0 b\/B.w0.heap.size<=b)/\ ∀id,H id≠none-> ¬ow id b):Did B (Zbl H nid (some (.cel t l))) w g nid (.vw nid) r:=by
 have hval:val.oneCell' =true/\Zav val=false:=by
  rcases hc with ⟨_,rfl⟩ | ⟨_,_,_,_,_,_,rfl,_⟩<;>exact⟨rfl,rfl⟩
 have key: ∃bo,ZeB w' (g.add nid t bo val) (fun b=>J b\/(w.heap.size<=b/\b<w'.heap.size)) nid (.cel t l):=by
  rcases hc with ⟨rfl,rfl⟩ | ⟨b,cap,cs,e,hd,hb,rfl,hh,h4,h5,h6,h7⟩
  ·exact⟨none,by simp [Gh.add],h1, .inl ⟨rfl,by simp [Gh.add],by simp [Gh.add]⟩⟩
  ·exact⟨some b,by simp [Gh.add],h1, .inr ⟨b,cap,cs,e,hd,by simp [Gh.add],hb,by simp [Gh.add],hh,h4,h5,h6.mono fun x c hx=>⟨hx.1.mono (fun _ _=>rfl) (Gh.le_add hnk _ _ _),hx.2⟩,h7⟩⟩
 obtain⟨bo,key⟩:=key;refine⟨val,w',g.add nid t bo val,Zc4 ow nid (fun b=>J b\/(w.heap.size<=b/\b<w'.heap.size)), .inl hr, ?_,Gh.le_add hnk _ _ _,fun b hb=>hheap b (hR.ilt b hb), ?_, ?_⟩
 ·refine hR.add hnk hheap hsz hos htape hout (fun k hk=> ?_) key;rcases hk with hk| ⟨h1,h2⟩
  ·obtain⟨p,q,r,s⟩:=hJ k hk;exact⟨p,by omega,r,s⟩
  ·refine⟨fun hI=>absurd (hR.ilt _ hI) (by omega),h2, .inr (by have:=hR.size;omega),fun id' h3 h4=> ?_⟩;have:=(hR.sep id' _ h3 h4).2.1;omega
 ·refine ZaR ?_ hval.1 rfl;simp only[CV];exact⟨.inl rfl,by simp [Gh.add],by simp [Gh.add,hval.1]⟩
 ·intro id h;rcases h with rfl|h
  ·exact .inr ⟨Vd _,by unfold ZaU;omega⟩
  ·exact .inl h
theorem Zio{t:Ty}{x:AV}{val:Value}(h:Zlz t x=true)(hx:VR w g x val):VR1 w g x val/\val.oneCell' =true/\val.cells.toList=[val]:=by
 unfold Zlz at h;simp only[Vv]at h;obtain⟨h1,h2⟩:=h;have hx1:=hx.to1 (Zey h1).2;unfold ZiH at h2;simp only[Vv,Bool.not_eq_true']at h2
 have hag:Zav val=false:=by
  rcases hx1.2 with h4|h4
  ·subst h4;simp [AV.fits]at h1
  ·rw[h4];exact h2.1
 have hcells:val.cells.toList=[val]:=by
  cases val<;>simp [Zav]at hag<;>rfl
 have hone:=CV.oneCell _ _ (Zey h1).1 hx1.1 t h1;exact⟨hx1,hone val (by rw[hcells];simp),hcells⟩
theorem Zi5{hd:List Value}{b cap n:Nat}{cs:Array Value}{e:TypeId}(hh:w.heap[b]? =some (.cells cs e (0,0)))(hl:hd.length=n)(hp:hd<+:cs.toList){w' :World}(hw:ZaM w w'):
  (Vo 1 n (.slice (some ⟨b,0,none⟩) n cap)).run P w' = .ok hd.toArray w' :=by
 refine ZhX hh hl (fun i hi=> ?_) hw;obtain⟨r,hr⟩:=hp
 have:cs.toList[i]? =some (hd.getD i undef):=by rw[<-hr,List.getElem?_append_left (by omega)];simp [List.getD_eq_getElem?_getD,List.getElem?_eq_getElem (show i<hd.length by omega)]
 simpa using this
theorem Zou{T:TypeId}{x:Operand}{id i:Nat}{t:Ty}{l:List AV}(hT:Zah P E)(hR:RH B H w g ow)(hF:Fr w g F a.tmps)(ho:o.op= .load T x)(hx:aev F x= .vp id i [])(hH:H id=some (.cel t l))(ht:E.ty T=some t)(hv:l[i]? =some v):
  Did B H w g nid v ((execOp a.eval o).run P w):=by
 obtain⟨hk,o',t1,b,h3,h4,h5⟩:=(hx▸hF.eval x).vp;rw[Zaz]at h3;obtain⟨rfl,rfl⟩:=Vp (Option.some.inj h3);obtain⟨_,hty,h1,hO⟩:=hR.objs id _ hH;rcases hO with ⟨rfl,_⟩ | ⟨b',cap,cs,e,hd,hb,_,_,hh,_,_,hfa,hp⟩
 ·simp at hv
 ·rw[h4]at hb;cases hb;obtain⟨u,hu,hvr,hone⟩:=hfa.get i v hv;obtain⟨r,hr⟩:=hp;have hil:i<hd.length:=(Vj.1 hu).1
  have hcs:cs.toList=hd.take i++[u]++(hd.drop (i+1)++r):=by
   rw[<-hr];have:=Vj.1 hu;obtain⟨h6,h7⟩:=this
   conv=>lhs;rw[<-Vi i hd,Vr h6,h7]
   simp
  have hca:=ZbM.of_heap hh hcs;have hlen: (hd.take i).length=i:=by simp;omega
  rw[hlen]at hca;refine Did.pure hR ?_ (VR.of1 hvr);have h6:=Zeq (P:=P) (hT.ty T _ ht) (cs:=[u]) (b:=b) (o:=i) hca (by simp [h1.1]) (fun _=>⟨u,rfl⟩);rw[hty,h1.1]at h5;simp only[Vw,Vs]at h5;simp only[execOp,ho,h5,Instr.loadAt,Vt,Vb,Vc,Va,h6,h1.2,mkV];rfl
theorem Zng{T:TypeId}{x y:Operand}{id i:Nat}{t:Ty}{l:List AV}(hT:Zah P E)(hR:RH B H w g ow)(hF:Fr w g F a.tmps)(ho:o.op= .store T x y)(hx:aev F x= .vp id i [])(hH:H id=some (.cel t l))(ht:E.ty T=some t)(hc:Zlz t (aev F y)=true)(hv:l[i]? =some v):
  Did B (Zbl H id (some (.cel t (l.set i (aev F y))))) w g nid .junk ((execOp a.eval o).run P w):=by
 obtain⟨hk,o',t1,b,h3,h4,h5⟩:=(hx▸hF.eval x).vp;rw[Zaz]at h3;obtain⟨rfl,rfl⟩:=Vp (Option.some.inj h3);obtain⟨hvr,hone,hcells⟩:=Zio hc (hF.eval y);obtain⟨_,hty,h1,hO⟩:=hR.objs id _ hH;rcases hO with ⟨rfl,_⟩ | ⟨b',cap,cs,e,hd,hb,hJ,hsv,hh,hl,hcap,hfa,hp⟩
 ·simp at hv
 ·rw[h4]at hb;cases hb;obtain⟨u,hu,_,_⟩:=hfa.get i v hv;obtain⟨r,hr⟩:=hp;have hil:=(Vj.1 hu);obtain⟨h6,h7⟩:=hil
  have hcs:cs.toList=hd.take i++[u]++(hd.drop (i+1)++r):=by
   rw[<-hr]
   conv=>lhs;rw[<-Vi i hd,Vr h6,h7]
   simp
  have hlen: (hd.take i).length=i:=by simp;omega
  have hst:=ZbX (P:=P) (hT.ty T _ ht) hh hcs (d:=[a.eval y]) hcells rfl (by simp [h1.1]) (by simp [hone]);rw[hty,h1.1]at h5;simp only[Vw,Vs]at h5;rw[hlen]at hst;have hid:H id≠none:=by rw[hH];simp
  refine Did.write hR hid hJ (cs' :=(hd.take i++[a.eval y]++(hd.drop (i+1)++r)).toArray) ?_ ?_
  ·simp only[execOp,ho,h5,Instr.storeAt,Vt,Vb,Vc,Va,hst]
  ·have hag:=ZcO (cs' :=(hd.take i++[a.eval y]++(hd.drop (i+1)++r)).toArray) hR hid hJ
   have hset:hd.set i (a.eval y)=hd.take i++[a.eval y]++hd.drop (i+1):=by rw[List.set_eq_take_append_cons_drop,if_pos h6];simp
   have hsz: (hd.take i++[a.eval y]++(hd.drop (i+1)++r)).length=cs.size:=by rw[<-Vh,hcs];simp
   refine⟨hty,h1, .inr ⟨b,cap,_,e,hd.set i (a.eval y),h4,hJ,by rw[Vz];exact hsv,ZbJ hh,by rw[Vz];exact hl,by rw[Vl,hsz];exact hcap, ?_,r,by rw[hset];simp⟩⟩;exact(hfa.set i ⟨hvr,hone⟩).mono fun x c hx=>⟨hx.1.mono hag (.refl g),hx.2⟩
theorem ZhC{T:Nat}{x i:Operand}{id j:Nat}{k:IntKind}{n:Int}{t:Ty}{l:List AV}(hT:Zah P E)(hR:RH B H w g ow)(hF:Fr w g F a.tmps)(ho:o.op= .indexAddr T x i)(hx:aev F x= .vw id)(hi:aev F i= .d (.int k) n)(hH:H id=some (.cel t l))(ht:E.ty T=some (.sl t))(hj:inb n l.length=some j):
  Did B H w g nid (.vp id j []) ((execOp a.eval o).run P w):=by
 obtain⟨h0,hn,rfl⟩:=ZcQ hj;obtain⟨Et,h1,h2⟩:=Zar hT ht;obtain⟨hk,hsv⟩:=(hx▸hF.eval x).vw;obtain⟨_,hty,h3,hO⟩:=hR.objs id _ hH;rcases hO with ⟨rfl,_⟩ | ⟨b,cap,cs,e,hd,hb,hJ,hs,hh,hl,hcap,hfa,hpre⟩
 ·simp at hn;omega
 refine Did.pure (val:= .pointer (some ⟨b,0+n.toNat*t.size,none⟩)) hR ?_ (ZaR ?_ rfl rfl)
 ·simp only[execOp,ho,hsv,hs,(hi▸hF.eval i).int,Vb,Za9 hT h1 h2 h0 hn,Va,Vc]
 ·simp only[CV];exact⟨hk,0,t,b,by rw[hty,Zaz],hb,by rw[hty];simp⟩
theorem ZiP{T:Nat}{x i:Operand}{id e j m:Nat}{p:List Nat}{k:IntKind}{n:Int}{t t0:Ty}{q:Nat×Ty}{xs:List (El t0)}(hT:Zah P E)(hR:RH B H w g ow)(hF:Fr w g F a.tmps)(ho:o.op= .indexAddr T x i)(hx:aev F x= .vp id e p)(hi:aev F i= .d (.int k) n)(hH:H id=some (.vec t0 xs))(hq:Zbh t0 p=some q)(hm:q.2= .arr m t)(ht:E.ty T=some (.arr m t))(hj:inb n m=some j):
  Did B H w g nid (.vp id e (p++[j])) ((execOp a.eval o).run P w):=by
 obtain⟨h0,hn,rfl⟩:=ZcQ hj;obtain⟨Et,h1,h2⟩:=Zca hT ht;obtain⟨hk,o',t1,b,h5,h6,h7⟩:=(hx▸hF.eval x).vp;obtain⟨_,hty,_⟩:=hR.objs id _ hH;have hq' :=hq;rw[hty,hq]at h5;cases h5;simp only at hm;subst hm;refine Did.pure (val:= .pointer (some ⟨b,e* (g.ty id).size+o' +n.toNat*t.size,none⟩)) hR ?_ (ZaR ?_ rfl rfl)
 ·simp only[execOp,ho,h7,(hi▸hF.eval i).int,Vb,ZcU hT h1 h2 h0 hn,Va,Vc]
 ·simp only[CV];exact⟨hk,o' +n.toNat*t.size,t,b,by rw[hty];exact Zcm p t0 [n.toNat] _ _ _ _ hq (by simp [Zbh,show n.toNat<m by omega]),h6,by rw[Nat.add_assoc]⟩
theorem Zpo{c:Call}{x:Operand}{T:TypeId}{id:Nat}{t:Ty}{l:List AV}(hT:Zah P E)(hR:RH B H w g ow)(hF:Fr w g F a.tmps)(ho:o.op= .call c)(hc:c.callee= .builtin .len)(hargs:c.args.toList=[x])(hty:c.argTypes[0]? =some T)(hx:aev F x= .vw id)(hH:H id=some (.cel t l))(ht:E.ty T=some (.sl t)):
  Did B H w g nid (.d (.int .i64) (l.length:Int)) ((execOp a.eval o).run P w):=by
 have hargs' :c.args.map a.eval= #[a.eval x]:=by
  have:c.args= #[x]:=by rw[<-Vm];exact hargs
  rw[this];simp
 obtain⟨hk,hsv⟩:=(hx▸hF.eval x).vw;obtain⟨_,_,_,hO⟩:=hR.objs id _ hH;obtain⟨Et,hu,_⟩:=Zar hT ht
 have he: ∃ (a0:Option Addr) (cap:Nat),a.eval x= .slice a0 l.length cap:=by
  rcases hO with ⟨rfl,_,h⟩ | ⟨b,cap,cs,e,hd,_,_,hs,_⟩
  ·exact⟨none,0,hsv.trans h⟩
  ·exact⟨_,cap,hsv.trans hs⟩
 obtain⟨a0,cap,he⟩:=he
 have hr: (Vga c.argTypes o.type #[a.eval x]).run P w= .ok (.int .i64 l.length) w:=by simp only[Vga,hty,he,ZpL,underlying,Vb,run_program,Va,hu,Vc,goInt]
 refine Did.pure hR (val:= .int .i64 l.length) ?_ (Zbj _ _);simp only[execOp,ho,ZaL hc,builtin,hargs',Vb,hr,Va,Vc]
theorem Zne{T:TypeId}{x:Operand}{lo hi:Option Operand}{id lo' hi' :Nat}{t:Ty}{l:List AV}(hT:Zah P E)(hR:RH B H w g ow)(hF:Fr w g F a.tmps)(ho:o.op= .slice T x lo hi none)(hx:aev F x= .vw id)(hH:H id=some (.cel t l))(ht:E.ty T=some (.sl t))(hlo:Zbm (aev F) lo=true)(hhi:Zbm (aev F) hi=true)
  (hs:sliceB l.length l.length (lo.bind fun o=>Zba (aev F o)) (hi.bind fun o=>Zba (aev F o))=some (lo',hi')):Did B H w g nid (.vs id lo' (hi' - lo')) ((execOp a.eval o).run P w):=by
 obtain⟨Et,hu,hEt⟩:=Zar hT ht;obtain⟨hk,he⟩:=(hx▸hF.eval x).vw;obtain⟨_,hty,_,hO⟩:=hR.objs id _ hH
 have key: ∃ (a0:Option Addr) (cap:Nat),g.slv id= .slice a0 l.length cap/\l.length<=cap/\(∀m n,m+n<=l.length->Zds (g.slv id) t.size m n [.slice (if cap=m then a0 else a0.map (·.add (m*t.size))) n (cap - m)]):=by
  rcases hO with ⟨rfl,_,hO⟩ | ⟨b,cap,cs,e,css,_,_,hO,_,hcap,_⟩
  ·refine⟨none,0,hO,Vd _,fun l n hln=> .inl ⟨hO, ?_, ?_, ?_⟩⟩
   ·simp at hln;omega
   ·simp at hln;omega
   ·simp at hln;obtain⟨rfl,rfl⟩:l=0/\n=0:=by omega
    rfl
  ·refine⟨_,cap,hO,hcap,fun m n hln=> .inr ⟨b,l.length,cap,cap - m,hO,hln,by omega,by omega, ?_⟩⟩;congr 2;by_cases h0:cap=m
   ·simp [h0]
   ·rw[if_neg h0,if_neg (by omega)];simp only[Option.map_some,Option.some.injEq];unfold Addr.add;split
    ·rename_i h0;rw[h0]
    ·simp
 obtain⟨a0,cap,h1,h2,h3⟩:=key;obtain⟨hb,hlh,hhl⟩:=Za6 (P:=P) (w:=w) (isS:=true) hF h2 (ZbP hlo) (ZbP hhi) hs (Vd _)
 refine Did.pure hR (val:= .slice (if cap=lo' then a0 else a0.map (·.add (lo' *t.size))) (hi' - lo') (cap - lo')) ?_ (ZaR ?_ rfl rfl)
 ·simp only[execOp,ho,he,h1,Vfa,Instr.slice,Vaa,underlying,Vb,run_program,Va,hu,Vc,hb,(hT.ty Et t hEt).run_sizeOf]
 ·simp only[CV];exact⟨hk,by rw[hty];exact h3 lo' _ (by omega)⟩
theorem Zqu{b:BinOp}{T T' :TypeId}{x y:Operand}{i:Nat}(hT:Zah P E)(hR:RH B H w g ow)(hF:Fr w g F a.tmps)(ho:o.op= .binOp b T x y T')(hx:aev F x= .ptr i [])(hy:aev F y= .ptr i [])(hpk:E.pz T=true):
  (b= .eql->Did B H w g nid (.d .bool true) ((execOp a.eval o).run P w))/\(b= .neq->Did B H w g nid (.d .bool false) ((execOp a.eval o).run P w)):=by
 obtain⟨e,he,hz⟩:=hT.pz T hpk;obtain⟨n,hz,hn⟩:=hz w;obtain⟨_,o1,t1,b1,h1,h2,h3⟩:=(hx▸hF.eval x).ptr;obtain⟨_,o2,t2,b2,h4,h5,h6⟩:=(hy▸hF.eval y).ptr;rw[Zaz]at h1 h4;obtain⟨rfl,rfl⟩:=Vp (Option.some.inj h1);obtain⟨rfl,rfl⟩:=Vp (Option.some.inj h4);rw[h2]at h5;cases h5
 have key: (Op.equal T (.pointer (some ⟨b1,0,none⟩)) (.pointer (some ⟨b1,0,none⟩))).run P w= .ok true w:=by
  have: ∀d,(Op.equalIn (d+1) T (.pointer (some ⟨b1,0,none⟩)) (.pointer (some ⟨b1,0,none⟩))).run P w= .ok true w:=fun d=>by simp only[Op.equalIn,underlying,Vb,run_program,Va,he,Vc,hz];simp [hn,sameAddr]
  exact this 9999
 have hg: ∀op,(eqGuard op T x y (.pointer (some ⟨b1,0,none⟩)) (.pointer (some ⟨b1,0,none⟩))).run P w= .ok () w:=fun op=>Zbc (by simp) rfl
 refine⟨fun hb=> ?_,fun hb=> ?_⟩<;>subst hb
 ·refine Did.pure hR (val:= .bool true) ?_ (Zbe _);simp only[execOp,ho,h3,h6,Vb,hg,Va,binOp,key,Vc]
 ·refine Did.pure hR (val:= .bool false) ?_ (Zbe _);simp only[execOp,ho,h3,h6,Vb,hg,Va,binOp,key,Vc,Bool.not_true]
theorem ZhE{T:TypeId}{t:Ty}(h:ZiB E T=some t):E.ty T=some (.sl t)/\(t.size=1/\t.agg=false)/\(t= .ref\/ ∃e,t= .sl e):=by
 unfold ZiB at h;split at h
 ·rename_i t' ht
  cases hb: (t'.data||E.rw T|| !Nat.beq t'.size 1) with
  |true=>rw[hb]at h;simp at h
  |false=>
   rw[hb]at h;simp only[cond_false]at h;split at h
   ·cases h;exact⟨ht,⟨rfl,rfl⟩, .inl rfl⟩
   ·cases h;exact⟨ht,⟨rfl,rfl⟩, .inr ⟨_,rfl⟩⟩
   ·simp at h
 ·simp at h
theorem Zor{T:TypeId}{lo co:Operand}{e:Ty}{k1 k2:IntKind}{n m:Int}(hT:Zah P E)(hR:RH B H w g ow)(hF:Fr w g F a.tmps)(hk: ∀id,g.K id->id<nid\/nid+ZaU<=id)(ho:o.op= .makeSlice T lo co)(ht:ZiB E T=some (.sl e))(hl:aev F lo= .d (.int k1) n)(hc:aev F co= .d (.int k2) m)
  (hg:0<=n/\n<=m/\m<=(Zax:Int)):Did B (Zbl H nid (some (.cel (.sl e) (Ve n.toNat .nils)))) w g nid (.vw nid) ((execOp a.eval o).run P w):=by
 obtain⟨h0,hnm,hmx⟩:=hg;obtain⟨ht,hs1,_⟩:=ZhE ht;obtain⟨Et,hu,hEt⟩:=Zar hT ht;obtain⟨ie,z,hie,hsz,hby,hz,hzok,hzag⟩:=(hT.ty Et _ hEt).info
 have hz0:z= .slice none 0 0:=by
  have h1:=ZhQ (hT.ty Et _ hEt) w;have h2: (zeroValue Et).run P w= .ok z w:=by simp [zeroValue,typeInfo,hie,hz]
  grind
 subst hz0;have hlo:=hF.eval lo;have hco:=hF.eval co;rw[hl]at hlo;rw[hc]at hco;have hrun:=Zh1 (w:=w) (k1:=k1) (k2:=k2) hT hu hEt hie hz rfl ((hT.ty _ _ ht).small _ _ hu hie) h0 hnm hmx
 have hex: (execOp a.eval o).run P w= .ok (.value (.slice (some ⟨w.heap.size,0,none⟩) n.toNat m.toNat)) (w.alloc (.cells (Ve m.toNat [Vq none 0 0]).flatten.toArray Et)):=by simp only[execOp,ho,VR.int hlo,VR.int hco,Vb,hrun,Va,Vc];rfl
 have hfl: ∀q:Nat,(Ve q [Vq none 0 0]).flatten=Ve q (Vq none 0 0):=by simp
 refine Zf6 (w' :=w.alloc (.cells (Ve m.toNat [Vq none 0 0]).flatten.toArray Et)) (J:=fun _=>False) hR (ZdF hk) hs1 (fun k hk=>Zbk hk) (by simp) rfl rfl ⟨rfl,Vd _⟩ hex ?_ (by simp);refine .inr ⟨w.heap.size,m.toNat,_,Et,Ve n.toNat (.slice none 0 0), .inr ⟨Vd _,by simp⟩,by simp,Zbi _ _,by simp;omega,by simp, ?_, ?_⟩
 ·generalize n.toNat=q
  induction q with
  |zero=>exact trivial
  |succ q ih=>
   simp only[List.replicate_succ];exact⟨⟨⟨by simp [CV,Value.cells], .inr rfl⟩,rfl⟩,ih⟩
 ·rw[hfl];refine⟨Ve (m.toNat - n.toNat) (.slice none 0 0), ?_⟩;simp only[List.replicate_append_replicate];congr 1;omega
theorem Zmv{T:TypeId}{x:Operand}{ps:Array (Nat×Operand)}{t:Ty}(hT:Zah P E)(hR:RH B H w g ow)(hF:Fr w g F a.tmps)(hk: ∀id,g.K id->id<nid\/nid+ZaU<=id)(ho:o.op= .buildSlice T 1 ps)(ht:ZiB E T=some t)(hps:ps.toList=[(0,x)])(hx:Zlz t (aev F x)=true):
  Did B (Zbl H nid (some (.cel t [aev F x]))) w g nid (.vw nid) ((execOp a.eval o).run P w):=by
 obtain⟨ht,hs1,_⟩:=ZhE ht;obtain⟨hvr,hone,hcells⟩:=Zio hx (hF.eval x);obtain⟨Et,hu,hEt⟩:=Zar hT ht;obtain⟨ie,z,hie,hsz,hby,hz,hzok,hzag⟩:=(hT.ty Et _ hEt).info;have hzero: (zeroValue Et).run P w= .ok z w:=by simp [zeroValue,typeInfo,hie,hz]
 have hzc:z.cells.size=1:=by have:=(ZdU (w:=w) (g:=g) hzok);have h3:=CV.length _ t _ this.2 this.1;rw[hs1.1]at h3;simpa using h3
 have hps' :ps= #[(0,x)]:=by rw[<-Vm];exact hps
 have h0:=ZbR z.cells 1;rw[hzc]at h0
 have hcell: (Array.range (1*t.size)).map (z.cells[· % z.cells.size]!)=z.cells:=by apply Vm.1;rw[hs1.1,hzc,h0];simp
 have hbig' : ¬1*t.size>2 ^ 24:=by rw[hs1.1];decide
 have hm: ¬1*t.size=0:=by rw[hs1.1];decide
 have hfill:=Zgm (place:=fun i=>some (i*t.size,t.size)) (lens:=[1]) (by
  intro i hi;simp only[List.length_singleton,Nat.lt_one_iff]at hi
  subst hi;simp [hs1.1]) [(0,a.eval x)] [z.cells.toList] (by simp [hzc]) (by
  intro p hp;simp only[List.mem_singleton]at hp;subst hp;exact⟨1,rfl,by rw[<-Vh,hcells];rfl⟩)
 have hset: (ZdB [z.cells.toList] [(0,a.eval x)]).flatten.toArray= #[a.eval x]:=by simp [ZdB,hcells]
 have h1:=hfill.1;rw[hset]at h1;simp only[List.flatten_cons,List.flatten_nil,List.append_nil,Array.toArray_toList]at h1
 have hrun: (execOp a.eval o).run P w= .ok (.value (.slice (some ⟨w.heap.size,0,none⟩) 1 1)) (w.alloc (.cells #[a.eval x] Et)):=by
  have hparts: (ps.map fun(i,x)=>(i,a.eval x)).toList=[(0,a.eval x)]:=by rw[hps'];simp
  simp only[execOp,ho,Instr.buildSlice,underlying,Vb,run_program,Va,hu,Vc,(hT.ty _ _ hEt).run_sizeOf,if_neg hbig',if_neg hm,hzero,hcell,hparts,h1,newRow,run_newObj];rfl
 refine Zf6 (w' :=w.alloc (.cells #[a.eval x] Et)) (J:=fun _=>False) hR (ZdF hk) hs1 (fun k hk=>Zbk hk) (by simp) rfl rfl ⟨rfl,Vd _⟩ hrun ?_ (by simp);exact .inr ⟨w.heap.size,1,_,Et,[a.eval x], .inr ⟨Vd _,by simp⟩,rfl,Zbi _ _,by simp,by simp,⟨⟨hvr.mono (fun b hb=>Zbk (hR.ilt b hb)) (.refl g),hone⟩,trivial⟩,by simp⟩
theorem ZjS{t:Ty}{ie:TypeInfo}{z:Value}{T0 T1 Et E1 ty:TypeId}{argTypes:Array TypeId}{sv xv:Value}{xs ys:List AV}{ids1 ids2:List Nat}{r:Result Next}(hR:RH B H w g ow)(hnk: ¬g.K nid)(hs1:t.size=1/\t.agg=false)
  (h0:argTypes[0]? =some T0) (h1:argTypes[1]? =some T1) (hu:P.underlying T0=some (.slice Et)) (hu1:P.underlying T1=some (.slice E1))
  (hie:P.info? Et=some ie) (hz:ie.zero=some z) (hzs:z.cells.size=1) (hsz1:ie.size=1) (hby:ie.bytes<=256) (hmx:xs.length+ys.length<=549755813888)
  (hS:Zoy w g (ZaC H ow ids1) xs sv) (hX:Zoy w g (ZaC H ow ids2) ys xv)
  (hr: ∀val w',(Builtin.append_ argTypes ty #[sv,xv]).run P w= .ok val w' ->r= .ok (.value val) w'):Did B (Zbl (Zad H ((ids1++ids2).map fun id=>(id,none))) nid (some (.cel t (xs++ys)))) w g nid (.vw nid) r:=by
 have hR1:RH B (Zad H ((ids1++ids2).map fun id=>(id,none))) w g ow:=hR.drops _
 have hxv: ∃xb c hd2,xv= .slice xb ys.length c/\hd2.length=ys.length/\Fa (fun a v=>VR1 w g a v/\v.oneCell' =true) ys hd2/\ ∀w',ZaM w w' ->(Vo ie.size ys.length (.slice xb ys.length c)).run P w' = .ok hd2.toArray w' :=by
  rw[hsz1];rcases hX with ⟨rfl,rfl⟩ | ⟨b,cap,cs,e,hd,_,rfl,hh,_,_,hfa,hp⟩
  ·exact⟨none,0,[],rfl,rfl,trivial,fun w' _=>by rfl⟩
  ·exact⟨_,cap,hd,rfl,hfa.length.symm,hfa,fun w' hw=>Zi5 hh hfa.length.symm hp hw⟩
 obtain⟨xb,c,hd2,rfl,hl2,hfa2,hfn⟩:=hxv
 have hsv: ∃base cap hd1,sv= .slice base xs.length cap/\hd1.length=xs.length/\Fa (fun a v=>VR1 w g a v/\v.oneCell' =true) xs hd1/\(∀w',ZaM w w' ->(Vo ie.size xs.length (.slice base xs.length cap)).run P w' = .ok hd1.toArray w')/\((base=none/\cap=0/\xs=[])\/
   ∃b cs e,ZaC H ow ids1 b/\base=some ⟨b,0,none⟩/\w.heap[b]? =some (.cells cs e (0,0))/\cap<=cs.size/\hd1<+:cs.toList):=by
  rw[hsz1];rcases hS with ⟨rfl,rfl⟩ | ⟨b,cap,cs,e,hd,hJb,rfl,hh,_,hcap,hfa,hp⟩
  ·exact⟨none,0,[],rfl,rfl,trivial,fun w' _=>by rfl, .inl ⟨rfl,rfl,rfl⟩⟩
  ·exact⟨_,cap,hd,rfl,hfa.length.symm,hfa,fun w' hw=>Zi5 hh hfa.length.symm hp hw, .inr ⟨b,cs,e,hJb,rfl,hh,hcap,hp⟩⟩
 obtain⟨base,cap,hd1,rfl,hl1,hfa1,hfo,hbase⟩:=hsv;have hlen: (xs++ys).length=xs.length+ys.length:=Vf;have hfa:=hfa1.append hfa2;rcases Zfp (ty:=ty) h0 h1 hu hu1 hie hz hby hfo hfn hmx with ⟨hroom,hrun⟩ | ⟨cap',w1,hc',hw1,hrun⟩
 ·rcases hbase with ⟨rfl,rfl,rfl⟩ | ⟨b,cs,e,⟨kb,hkb,hkl,hkb2⟩,rfl,hh,hcap,hp⟩
  ·have hy:ys=[]:=by
    have:ys.length=0:=by simpa using hroom
    exact List.length_eq_zero_iff.1 this
   subst hy;have hr' :=hr _ _ (hrun.trans (by simp only[Vb,Vc,Va];rfl));exact Zf6 (J:=fun _=>False) hR1 hnk hs1 (by simp) (Vd _) rfl rfl ⟨rfl,Vd _⟩ hr' (.inl ⟨rfl,rfl⟩) (by simp)
  ·have hs:=hR.sep kb b hkl hkb2;have hone: ∀u∈hd2,u.oneCell' =true:=hfa2.all_right fun _ _ h=>h.2;obtain⟨rest,hrest⟩:=hp;have hcsz:hd1.length+rest.length=cs.size:=by rw[<-Vh, <-hrest,Vf]
   have hst:=run_storeCells_at P b (xs.length*1) e hd2 0 cs w hh (by omega) hone;have htake:cs.toList.take xs.length=hd1:=by rw[<-hrest, <-hl1];simp
   have hnew: (cs.toList.take (xs.length*1+0)++hd2++cs.toList.drop (xs.length*1+0+hd2.length))=(hd1++hd2)++cs.toList.drop (xs.length+hd2.length):=by simp only[Vw,Vs,htake]
   rw[hnew]at hst
   have hr' :=hr (.slice (some ⟨b,0,none⟩) (xs.length+ys.length) cap) (w.setRow b ((hd1++hd2)++cs.toList.drop (xs.length+hd2.length)).toArray) (hrun.trans (by simp only[Vb,Zb4,hsz1,Nat.zero_add,hst,Va,Vc]))
   have hother: ∀k,k≠b->(w.setRow b ((hd1++hd2)++cs.toList.drop (xs.length+hd2.length)).toArray).heap[k]? =w.heap[k]? :=fun k hk=>setRow_other w b k _ hk;have hfr:=Zcg (ids:=ids1++ids2) hR (b:=b) ⟨kb,by simp [hkb],hkl,hkb2⟩;have hR2:=hR1.free (w' :=w.setRow b ((hd1++hd2)++cs.toList.drop (xs.length+hd2.length)).toArray) (b:=b) hfr.2.2.2 hs.1 hs.2.2 hother (size_setRow w b _) rfl rfl ⟨rfl,Vd _⟩;have hag:ZaV g.I w (w.setRow b ((hd1++hd2)++cs.toList.drop (xs.length+hd2.length)).toArray):=fun k hk=>hother k fun e=>hs.1 (e▸hk);have hdid:=Zf6 (w' :=w.setRow b ((hd1++hd2)++cs.toList.drop (xs.length+hd2.length)).toArray) (J:=ZaC H ow (ids1++ids2)) (t:=t) (l:=xs++ys) hR2 hnk hs1 (by simp) (Vd _) rfl rfl ⟨rfl,Vd _⟩ hr' ?_ (fun b' hb' => ?_)
   ·obtain⟨val,w',g',ow',d1,d2,d3,d4,d5,d6⟩:=hdid;exact⟨val,w',g',ow',d1,d2,d3,fun k hk=>(d4 k hk).trans (hag k hk),d5,d6⟩
   ·refine .inr ⟨b,cap,_,e,hd1++hd2, .inl ⟨kb,by simp [hkb],hkl,hkb2⟩,by rw[hlen],ZbJ hh,by omega, ?_,hfa.mono fun x c hx=>⟨hx.1.mono hag (.refl g),hx.2⟩,by simp⟩;simp only[Vl,Vf,Vx,Vh];omega
   ·obtain⟨p,q,r,s⟩:=Zcg hR hb';exact⟨p,by rw[size_setRow];exact q,r,s⟩
 ·have hr' :=hr _ _ hrun;have hR2:=hR1.same hw1;have hsize:w1.heap.size=w.heap.size:=by rw[hw1.heap]
  have hdid:=Zf6 (w' :=w1.alloc (.cells (hd1.toArray++hd2.toArray++Vg z.cells (cap' - (xs.length+ys.length))) Et)) (J:=fun _=>False) (t:=t) (l:=xs++ys) hR2 hnk hs1 (fun k hk=>Zbk hk) (by simp) rfl rfl ⟨rfl,Vd _⟩ hr' ?_ (by simp)
  ·obtain⟨val,w',g',ow',d1,d2,d3,d4,d5,d6⟩:=hdid;exact⟨val,w',g',ow',d1,d2,d3,fun k hk=>(d4 k hk).trans (hw1.agree g.I k hk),d5,d6⟩
  ·have hb0: ∀b,b<w.heap.size->(w1.alloc (.cells (hd1.toArray++hd2.toArray++Vg z.cells (cap' - (xs.length+ys.length))) Et)).heap[b]? =w.heap[b]? :=fun b hb=>by rw[Zbk (by omega),hw1.heap]
   have hzc: (Vg z.cells (cap' - (xs.length+ys.length))).size=(cap' - (xs.length+ys.length)) *1:=by simp [Vg,hzs]
   refine .inr ⟨w1.heap.size,cap',_,Et,hd1++hd2, .inr ⟨Vd _,by simp⟩,by rw[hlen,hsize],Zbi _ _,by omega, ?_,hfa.mono fun x c hx=>⟨hx.1.mono (fun b hb=>hb0 b (hR.ilt b hb)) (.refl g),hx.2⟩,by simp⟩;simp only[Array.size_append,Vl,hzc];omega
theorem Zm3{c:Call}{x:Operand}{id lo n:Nat}{T0:TypeId}{t:Ty}{xs:List (El t)}(hT:Zah P E)(hR:RH B H w g ow)(hF:Fr w g F a.tmps)(ho:o.op= .call c)(hc:c.callee= .builtin .clear)(hargs:c.args.toList=[x])(h0:c.argTypes[0]? =some T0)(ht:E.ty T0=some (.sl t))(hx:aev F x= .vs id lo n)(hH:H id=some (.vec t xs))(hd:t.data=true)(hlo:lo+n<=xs.length):
  Did B (Zbl H id (some (.vec t (xs.take lo++Ve n (zeroEl t)++xs.drop (lo+n))))) w g nid (.tup .nil) ((execOp a.eval o).run P w):=by
 obtain⟨Et,hu,hEt⟩:=Zar hT ht;obtain⟨ie,z,hie,hsz,hz,hzs,_,hrows⟩:=Ze4 (w:=w) (g:=g) hT hEt hd;have hzero: (zeroValue Et).run P w= .ok z w:=by simp [zeroValue,typeInfo,hie,hz]
 have hargs' :c.args.map a.eval= #[a.eval x]:=by
  have:c.args= #[x]:=by rw[<-Vm];exact hargs
  rw[this];simp
 have hex: ∀w',(Vk c.argTypes o.type #[a.eval x]).run P w= .ok (.tuple #[]) w' ->(execOp a.eval o).run P w= .ok (.value (.tuple #[])) w' :=fun w' hr=>by simp only[execOp,ho,ZaL hc,builtin,hargs',Vb,hr,Va,Vc]
 have hv: ∀ {w' :World}{g' :Gh},VR w' g' (.tup .nil) (.tuple #[]):=⟨[],rfl,rfl⟩;obtain⟨hk,hsub⟩:=(hx▸hF.eval x).vs;have hid:H id≠none:=by rw[hH];simp
 by_cases hn:n=0
 ·subst hn;have e:xs.take lo++Ve 0 (zeroEl t)++xs.drop (lo+0)=xs:=by simp
  rw[e,ZiV hH];refine Did.pure hR (hex _ ?_) hv;rcases hsub with ⟨_,_,_,h3⟩ | ⟨b,len,cap,m,h1,h2,h3,h4,h5⟩
  ·have he:a.eval x= .slice none 0 0:=by simpa using h3
   rw[he];simp only[Vk,h0,ZpL,underlying,Vb,run_program,Va,hu,Vc]
  ·have he:a.eval x= .slice (some ⟨b,if m=0 then 0 else lo* (g.ty id).size,none⟩) 0 m:=by simpa using h5
   rw[he];simp only[Vk,h0,ZpL,underlying,Vb,run_program,Va,hu,Vc]
 ·obtain⟨hK,hty,hO⟩:=hR.objs id _ hH;rcases hsub with ⟨_,_,h3,_⟩ | ⟨b,len,cap,m,hslv,h2,h3,h4,h5⟩
  ·exact absurd h3 hn
  have hm0:m≠0:=by omega
  rw[if_neg hm0,hty]at h5;have he:a.eval x= .slice (some ⟨b,lo*t.size,none⟩) n m:=by simpa using h5
  rcases hO with ⟨rfl,_⟩ | ⟨b',cap',cs,e,css,hblk,hob,hslv',hh,hcap',hcs,hfa,rest,hrest⟩
  ·simp at hlo;omega
  rw[hslv]at hslv';simp only[Vq.injEq,Option.some.injEq,Addr.mk.injEq,and_true]at hslv';obtain⟨rfl,rfl,rfl⟩:=hslv'
  let zs:=Ve n z.cells.toList
  have hfz:Fa (Rd w g.I t) (Ve n (zeroEl t)) zs:=hrows n;have hl1:=Zap (Rd.all_length hfa)
  have hzl: (Vg z.cells n).toList=zs.flatten:=by have:=ZbR z.cells n;unfold Vg;exact this
  have hn2:zs.flatten.length=n*t.size:=by rw[Zap fun c hc=>Rd.all_length hfz c hc];simp [zs]
  have hn1: ((css.take lo).flatten).length=lo*t.size:=by rw[Zap fun c hc=>Rd.all_length hfa c (Vu hc),Vy, <-hfa.length,Vba (by omega)]
  have hnm: (((css.drop lo).take n).flatten).length=n*t.size:=by rw[Zap fun c hc=>Rd.all_length hfa c (List.mem_of_mem_drop (Vu hc)),Vy,Vx, <-hfa.length,Vba (by omega)]
  have hsplit:css.flatten=(css.take lo).flatten++(((css.drop lo).take n).flatten++(css.drop (lo+n)).flatten):=by rw[<-Vca, <-Vn,Vi, <-Vn,Vi]
  have hcs2:cs.toList=(css.take lo).flatten++(((css.drop lo).take n).flatten++((css.drop (lo+n)).flatten++rest)):=by rw[<-hrest,hsplit];simp
  have hsize:cs.size=lo*t.size+(n*t.size+((css.drop (lo+n)).flatten++rest).length):=by rw[<-Vh,hcs2,Vf,Vf,hn1,hnm]
  have hone: ∀u∈zs.flatten,u.oneCell' =true:=by intro u hu;obtain⟨c1,hc1,hu⟩:=List.mem_flatten.1 hu;exact hfz.all_right (p:=fun c=> ∀u∈c,u.oneCell' =true) (fun y c hy=>Rd.oneCell t _ _ hy) c1 hc1 u hu
  have hst:=run_storeCells_at P b (lo*t.size) e zs.flatten 0 cs w hh (by rw[hn2];omega) hone
  have hnew: (cs.toList.take (lo*t.size+0)++zs.flatten++cs.toList.drop (lo*t.size+0+zs.flatten.length))=(css.take lo++zs++css.drop (lo+n)).flatten++rest:=by rw[Vs,hn2,hcs2, <-hn1,List.take_left, <-Vca,Vda, <-hnm,Vda];simp
  rw[hnew]at hst
  have hrun: (Vk c.argTypes o.type #[a.eval x]).run P w= .ok (.tuple #[]) (w.setRow b ((css.take lo++zs++css.drop (lo+n)).flatten++rest).toArray):=by rw[he];obtain⟨n',rfl⟩:=Nat.exists_eq_succ_of_ne_zero hn;simp only[Vk,h0,ZpL,underlying,Vb,run_program,Va,hu,Vc,hzero,hzl,hst]
  have hs:=hR.sep id b hid hob;have hag:ZaV g.I w (w.setRow b ((css.take lo++zs++css.drop (lo+n)).flatten++rest).toArray):=fun q hq=>setRow_other w b q _ fun e=>hs.1 (e▸hq)
  have hfan:Fa (Rd (w.setRow b ((css.take lo++zs++css.drop (lo+n)).flatten++rest).toArray) g.I t) (xs.take lo++Ve n (zeroEl t)++xs.drop (lo+n)) (css.take lo++zs++css.drop (lo+n)):=
   (((hfa.take lo).append hfz).append (hfa.drop (lo+n))).mono fun x c hx=>Rd.mono hag (by simp) t x c hx
  have hlen: (xs.take lo++Ve n (zeroEl t)++xs.drop (lo+n)).length=xs.length:=by simp;omega
  refine⟨.tuple #[],_,g,ow, .inl (hex _ hrun),hR.write hid hob (fun q hq=>setRow_other w b q _ hq) (size_setRow w b _) rfl rfl ⟨rfl,Vd _⟩ ?_, .refl g,hag,hv,fun id h=> .inl h⟩;refine⟨hty, .inr ⟨b,_,_,e,_,hblk,hob,by rw[hlen];exact hslv,ZbJ hh,by omega, ?_,hfan,rest,by simp⟩⟩
  have h8: ((css.take lo++zs++css.drop (lo+n)).flatten++rest).length=cs.size:=by rw[hsize];simp only[Vn,Vf,hn1,hn2];omega
  rw[Vl,h8];exact hcs
theorem Zn5{x:AV}{val:Value}{r:Bool}{m m' :List Nat}(hR:RH B H w g ow)(hx:VR w g x val)(h: (Zox x).run H m=some (r,m')): ∃a n c,val= .slice a n c/\a.isNone=r:=by
 unfold Zox at h;split at h
 ·simp only[Zab]at h;obtain⟨rfl,_⟩:=h;exact⟨none,0,0,hx.nils,rfl⟩
 ·rename_i t xs;simp only[Zac,Zab]at h;obtain⟨_,he,rfl,_⟩:=h;have he:=ZaK he;obtain⟨a,cap,css,rfl,_,h3,_⟩:=hx.sl;obtain⟨b,off,rfl,_⟩:=h3 (by rintro rfl;simp at he);exact⟨_,_,_,rfl,rfl⟩
 ·rename_i id;rw[Zag]at h;split at h
  ·rename_i t xs hH;simp only[Zac,Zab]at h;obtain⟨_,he,rfl,_⟩:=h;have he:=ZaK he;obtain⟨_,hs⟩:=hx.vw;obtain⟨_,_,hO⟩:=hR.objs id _ hH;rcases hO with ⟨rfl,_⟩ | ⟨b,cap,cs,e,css,_,_,h4,_⟩
   ·simp at he
   ·exact⟨_,_,_,hs.trans h4,rfl⟩
  ·simp [Zaa]at h
 ·simp [Zaa]at h
theorem ZqA{b:BinOp}{T T' :TypeId}{x y:Operand}{r:Bool}{m m' :List Nat}(hT:Zah P E)(hR:RH B H w g ow)(hF:Fr w g F a.tmps)(ho:o.op= .binOp b T x y T')(hy:aev F y= .nils)(ht:Zdy (E.ty T)=true)(h: (Zox (aev F x)).run H m=some (r,m')):
  (b= .eql->Did B H w g nid (.d .bool r) ((execOp a.eval o).run P w))/\(b= .neq->Did B H w g nid (.d .bool (!r)) ((execOp a.eval o).run P w)):=by
 have: ∃t,E.ty T=some (.sl t):=by
  cases ht' :E.ty T with
  |none=>rw[ht']at ht;simp [Zdy]at ht
  |some t=>cases t<;>rw[ht']at ht<;>simp [Zdy]at ht;exact⟨_,rfl⟩
 obtain⟨t,ht'⟩:=this;obtain⟨Et,hu,_⟩:=Zar hT ht';obtain⟨ad,n,c,h3,h4⟩:=Zn5 hR (hF.eval x) h;have h6:=(hy▸hF.eval y).nils
 have key: (Op.equal T (.slice ad n c) (.slice none 0 0)).run P w= .ok r w:=by
  have: ∀d,(Op.equalIn (d+1) T (.slice ad n c) (.slice none 0 0)).run P w= .ok r w:=fun d=>by
   simp only[Op.equalIn,underlying,Vb,run_program,Va,hu,Vc]
   cases ad<;>simp at h4<;>subst h4<;>simp
  exact this 9999
 have hg: ∀op,(eqGuard op T x y (.slice ad n c) (.slice none 0 0)).run P w= .ok () w:=fun op=>Zbc (by simp) rfl
 refine⟨fun hb=> ?_,fun hb=> ?_⟩<;>subst hb
 ·refine Did.pure hR (val:= .bool r) ?_ (Zbe _);simp only[execOp,ho,h3,h6,Vb,hg,Va,binOp,key,Vc]
 ·refine Did.pure hR (val:= .bool (!r)) ?_ (Zbe _);simp only[execOp,ho,h3,h6,Vb,hg,Va,binOp,key,Vc]
theorem ZlT{T:TypeId}{x:Operand}{lo hi:Option Operand}{id lo' hi' n:Nat}{t:Ty}{xs:List (El t)}(hT:Zah P E)(hR:RH B H w g ow)(hF:Fr w g F a.tmps)(ho:o.op= .slice T x lo hi none)(hx:aev F x= .ptr id [])(hH:H id=some (.var (.arr n t) (.d (.arr n t) xs)))(ht:E.ty T=some (.arr n t))(hlo:Zbm (aev F) lo=true)(hhi:Zbm (aev F) hi=true)
  (hs:sliceB n n (lo.bind fun o=>Zba (aev F o)) (hi.bind fun o=>Zba (aev F o))=some (lo',hi')):Did B (Zbl H id none) w g nid (.d (.sl t) ((xs.drop lo').take (hi' - lo'))) ((execOp a.eval o).run P w):=by
 obtain⟨Et,hu,hEt⟩:=Zf5 hT ht;obtain⟨hk,o',t1,b,h1,h2,h3⟩:=(hx▸hF.eval x).ptr;rw[Zaz]at h1;obtain⟨rfl,rfl⟩:=Vp (Option.some.inj h1);obtain⟨_,hty,_,b',cs,e,h4,h5,h6,h7,h8⟩:=hR.objs id _ hH;rw[h2]at h4;cases h4;simp only[CV]at h8;obtain⟨hl,css,hcs,hfa⟩:=h8;have hid:H id≠none:=by rw[hH];simp
 have hown:ZaC H ow [id] b:=⟨id,by simp,hid,h5⟩;have hR' :=hR.freezeIds (ids:=[id]);obtain⟨hb,hlh,hhl⟩:=Za6 (P:=P) (w:=w) (isS:=false) hF (Vd _) (ZbP hlo) (ZbP hhi) hs (Vd _)
 refine Did.after_le (g.le_grow (ZaC H ow [id])) (fun _ h=>h) (Did.pure (val:= .slice (some (if n=lo' then⟨b,0,none⟩ else Addr.add ⟨b,0,none⟩ (lo' *t.size))) (hi' - lo') (n - lo')) hR' ?_ (ZaR ?_ rfl rfl))
 ·simp only[execOp,ho,h3,Vfa,Vt,Vaa,underlying,Vb,run_program,Va,hu,Vc,hb,(hT.ty Et t hEt).run_sizeOf]
 ·have hlen: ((xs.drop lo').take (hi' - lo')).length=hi' - lo' :=by simp;omega
  have hfa' :Fa (Rd w (g.grow (ZaC H ow [id])).I t) xs css:=hfa.mono fun x c hx=>Rd.mono (fun _ _=>rfl) (fun _ h=> .inl h) t x c hx;simp only[CV,Rd];refine⟨_,n - lo',(css.drop lo').take (hi' - lo'),by rw[hlen],(hfa'.drop lo').take _,fun hne=> ?_,by rw[hlen];omega⟩;have hpos:0<hi' - lo' :=by rw[<-hlen];exact List.length_pos_iff.2 hne
  have hL:ZcC w b 0 css.flatten:=by
   intro j hj;rw[<-hcs]at hj;simp only[World.cell?,h6,Nat.zero_add]
   have:cs[j]? =some (css.flatten[j]'(by rw[<-hcs];exact hj)):=by rw[<-Array.getElem?_toList];simp [hcs]
   simpa using this
  refine⟨b,0+lo' *t.size, ?_, .inr hown,ZcC.part (Rd.all_length hfa) (by rw[<-hfa.length];omega) hL⟩;rw[if_neg (by omega)];simp [Addr.add];exact fun h=>h.symm
end ops
end Tr
