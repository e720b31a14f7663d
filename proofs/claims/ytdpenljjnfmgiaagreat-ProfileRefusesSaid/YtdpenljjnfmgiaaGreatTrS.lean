/- append. Conditions: the table of types is the program's. -/
import Derived.Laws.AppendOwn
import Derived.Test.YtdpenljjnfmgiaaGreatTrR
open Array renaming length_toList ->Vr,size_append ->Vv
open Bool renaming not_eq_false' ->Vt
open Go.Builtin renaming zeroCells ->Va,firstCells ->Vc,append_ ->Vd,nextslicecap ->Vq,lenOf ->Vy
open Int renaming toNat_of_nonneg ->Vi
open Go.IntKind renaming i64 ->Vaa
open List renaming replicate ->Vj,length_append ->Vk,getElem?_eq_some_iff ->Vm,getElem?_eq_getElem ->Vn,getElem_of_mem ->Vs
open Nat renaming le_refl ->Vb,add_mul ->Vp,zero_add ->Vu,mul_le_mul ->Vw
open Option renaming bind_eq_some_iff ->Vo
open Prod.mk renaming injEq ->Ve
open Go.Result renaming andThen_ok ->Vf
open Go.Sem renaming run_bind ->Vg,run_pure ->Vh
open Go.Value renaming slice ->Vl,oneCell' ->Vx
open Go.World renaming cell? ->Vz
namespace Tr
open Go
section ops
variable {P:Program}{E:Env}{B:Zbr}{H:AH}{w:World}{g:Gh}{ow:Nat->Nat->Prop}{nid:Nat}{a:Act}{F:Nat->AV}{v:AV}{patch:ZaY}{rd:List Nat}{o:Oper}
def Zit(w:World)(g:Gh)(t:Ty)(y:List (El t))(v:Value):Prop:=
 ∃xb c css,v= .slice xb y.length c/\Fa (Rd w g.I t) y css/\(y≠ []-> ∃b off,xb=some ⟨b,off,none⟩/\ZcC w b off css.flatten)
theorem Zc1{t:Ty}{x:AV}{val:Value}{y:List (El t)}{ids l l' :List Nat}(hR:RH B H w g ow)(hx:VR w g x val)(h: (ZhY t x).run H l=some ((y,ids),l')):Zit w g t y val:=by
 have hsrc: (∃t' xs u hole id,x= .vw id/\H id=some (.rows t' xs u hole))->False:=by rintro ⟨t',xs,u,hole,id,rfl,hH⟩;simp only[ZhY]at h;rw[Zag,hH]at h;simp [Zaa]at h
 have h: ∃l,(ZaJ (.sl t) x).run H l=some ((y,ids),l'):=by
  cases x with
  |vw id=>
   simp only[ZhY]at h;rw[Zag]at h
   grind
  |_=>exact⟨_,h⟩
 obtain⟨l,h⟩:=h
 cases x with
 |d t' z=>
  simp only[ZaJ,Zac,Zab,Ve]at h;obtain⟨y',hy,⟨rfl,rfl⟩,_⟩:=h;obtain⟨rfl,rfl⟩:=Zan hy;obtain⟨xb,c,css,h1,h2,h3,_⟩:=hx.sl
  exact⟨xb,c,css,h1,h2,by grind⟩
 |nils=>
  simp only[ZaJ,Zab,Ve]at h;obtain⟨⟨rfl,rfl⟩,_⟩:=h
  exact⟨none,0,[],hx.nils,trivial,by simp⟩
 |vw id=>
  simp only[ZaJ]at h;rw[Zag]at h;split at h
  ·rename_i t' xs hH;simp only[Zac,Zab,Ve]at h;obtain⟨y',hy,⟨rfl,rfl⟩,_⟩:=h;obtain⟨he,rfl⟩:=Zan hy;cases he;obtain⟨_,hv⟩:=hx.vw;obtain⟨_,_,hO⟩:=hR.objs id _ hH;rcases hO with ⟨rfl,_,hs⟩ | ⟨b,cap,cs,e,css,_,_,hs,hh,_,_,hfa,hc⟩
   ·exact⟨none,0,[],hv.trans hs,trivial,by simp⟩
   ·exact⟨some ⟨b,0,none⟩,cap,css,hv.trans hs,hfa,fun _=>⟨b,0,rfl,ZcC.of_vec hh hc⟩⟩
  ·grind
  ·rename_i t' xs hH;simp only[Zac,Zab,Ve]at h;obtain⟨y',hy,⟨rfl,rfl⟩,_⟩:=h;obtain⟨he,rfl⟩:=Zan hy;cases he;obtain⟨xb,c,css,h1,h2,h3,_⟩:=(Zkm hR hH hx).sl;exact⟨xb,c,css,h1,h2,by grind⟩
  ·simp [Zaa]at h
 |nw id ver kt k=>
  simp only[ZaJ,Zaj,Zac,Zab,Ve]at h;obtain⟨r,m,hacc,y',hy,⟨rfl,rfl⟩,_⟩:=h;obtain⟨he,rfl⟩:=ZbU hy;obtain⟨t0,row⟩:=r;simp only at he;subst he;obtain⟨_,_,_,_,hrow⟩:=Zdf hR hx hacc;rcases hrow with ⟨h1,h2⟩ | ⟨b,cap,cs,e,css,h2,_,hh,_,_,hfa,hc⟩
  ·simp only at h1;subst h1;exact⟨none,0,[],h2,trivial,by simp⟩
  ·exact⟨some ⟨b,0,none⟩,cap,css,h2,hfa,fun _=>⟨b,0,rfl,ZcC.of_vec hh hc⟩⟩
 |vs id lo n=>
  simp only[ZaJ]at h;rw[Zag]at h;split at h
  ·rename_i t' xs hH;simp only[Zac,Zab,Ve]at h;obtain⟨y',hy,⟨rfl,rfl⟩,_⟩:=h;obtain⟨he,rfl⟩:=Zan hy;cases he;obtain⟨_,hv⟩:=hx.vs;obtain⟨_,hty,hO⟩:=hR.objs id _ hH;rw[hty]at hv;rcases hv with ⟨hs,rfl,rfl,hv⟩ | ⟨b,len,cap,m,hs,h1,h2,h3,hv⟩
   ·refine⟨none,0,[],by grind,by simp;trivial,by simp⟩
   ·rcases hO with ⟨_,_,hs'⟩ | ⟨b',cap',cs,e,css,_,_,hs',hh,_,_,hfa,hc⟩
    ·grind
    ·rw[hs]at hs';simp only[Vl.injEq,Option.some.injEq,Addr.mk.injEq,and_true]at hs';obtain⟨rfl,rfl,rfl⟩:=hs';have hlen: ((xs.drop lo).take n).length=n:=by grind
     refine⟨some ⟨b,if m=0 then 0 else lo*t.size,none⟩,m,(css.drop lo).take n, ?_,(hfa.drop lo).take n,fun hne=>⟨b,lo*t.size, ?_, ?_⟩⟩
     ·grind
     ·have:0< ((xs.drop lo).take n).length:=List.length_pos_iff.2 hne
      grind
     ·have:=ZcC.part (off:=0) (l:=lo) (n:=n) (Rd.all_length hfa) (by rw[<-hfa.length];omega) (ZcC.of_vec hh hc)
      grind
  ·simp [Zaa]at h
 |agg l0=>cases l0<;>simp [ZaJ,ZbI,Zaa]at h
 |_=>simp [ZaJ,Zaa]at h
theorem Zg3{b off n cap sz:Nat}{css:List (List Value)}(hs: ∀c∈css,c.length=sz)(hn:css.length=n)(hL:ZcC w b off css.flatten){w' :World}(hw:ZaM w w'):
  (Vc sz n (.slice (some ⟨b,off,none⟩) n cap)).run P w' = .ok css.flatten.toArray w' :=by
 refine run_firstCells_some (P:=P) w' sz n _ n cap _ (by rw[Zap hs,hn]) ?_;intro j u hj;obtain⟨hlt,rfl⟩:=Vm.1 hj;have:=hL j hlt;rw[Zb4, <-this];simp only[Vz,hw.heap]
theorem Zfp{T0 T1 ty Et E1:TypeId}{ie:TypeInfo}{z:Value}{argTypes:Array TypeId}(h0:argTypes[0]? =some T0)(h1:argTypes[1]? =some T1)(hu:P.underlying T0=some (.slice Et))(hu1:P.underlying T1=some (.slice E1))
  (hie:P.info? Et=some ie) (hz:ie.zero=some z) (hby:ie.bytes<=256) {base xb:Option Addr}{n cap m c:Nat}{olds news:List Value}
  (hfo: ∀w',ZaM w w' ->(Vc ie.size n (.slice base n cap)).run P w' = .ok olds.toArray w') (hfn: ∀w',ZaM w w' ->(Vc ie.size m (.slice xb m c)).run P w' = .ok news.toArray w') (hmx:n+m<=549755813888):
  (n+m<=cap/\(Vd argTypes ty #[.slice base n cap, .slice xb m c]).run P w=(do (match base with|some a=>storeCells (a.add (n*ie.size)) news|none=>pure ());pure (.slice base (n+m) cap):Sem Value).run P w)\/
  (∃cap' w1,n+m<=cap' /\ZaM w w1/\(Vd argTypes ty #[.slice base n cap, .slice xb m c]).run P w= .ok (.slice (some ⟨w.heap.size,0,none⟩) (n+m) cap') (w1.alloc (.cells (olds.toArray++news.toArray++Va z.cells (cap' - (n+m))) Et))):=by
 have ha: (#[Vl base n cap,Vl xb m c]:Array Value)[0]? =some (.slice base n cap):=rfl;have hb: (#[Vl base n cap,Vl xb m c]:Array Value)[1]? =some (.slice xb m c):=rfl;by_cases hr:n+m<=cap
 ·refine .inl ⟨hr, ?_⟩;simp [Vd,h0,h1,run_underlying hu,run_underlying hu1,Go.sizeOf,typeInfo,hie,Vy,hr,hfn w (.refl w)]
  cases base<;>simp
 ·refine .inr ⟨grownCap w (n+m) cap Et,w.drew,grownCap_ge ..,⟨rfl,rfl,rfl,⟨rfl,by simp⟩⟩, ?_⟩;have h63: ¬ (9223372036854775807< ((n:Int)+(m:Int))):=by omega
  have h48: ¬ (281474976710656<Vq (n+m) cap*ie.bytes):=by have:=growslice_fits (need:=n+m) (old:=cap) (bytes:=ie.bytes) (by omega) (Nat.le_trans (Vw hmx hby) (by decide));omega
  simp [Vd,h0,h1,run_underlying hu,run_underlying hu1,Go.sizeOf,typeInfo,zeroValue,hie,hz,Vy,hr,h63,h48,Question.forced,hfn w.drew ⟨rfl,rfl,rfl,⟨rfl,by simp⟩⟩,hfo w.drew ⟨rfl,rfl,rfl,⟨rfl,by simp⟩⟩,newRow,grownCap]
  grind
theorem Zg2{t:Ty}{H' :AH}{ie:TypeInfo}{z:Value}{T0 T1 Et E1 ty:TypeId}{argTypes:Array TypeId}{sv xv:Value}{xs ys:List (El t)}{r:Result Next}(hR:RH B H w g ow)(hnk: ¬g.K nid)
  (h0:argTypes[0]? =some T0) (h1:argTypes[1]? =some T1) (hu:P.underlying T0=some (.slice Et)) (hu1:P.underlying T1=some (.slice E1))
  (hie:P.info? Et=some ie) (hz:ie.zero=some z) (hzs:z.cells.size=t.size) (hsz:ie.size=t.size) (hby:ie.bytes<=256) (hmx:xs.length+ys.length<=549755813888) (hX:Zit w g t ys xv)
  (hr: ∀val w',(Vd argTypes ty #[sv,xv]).run P w= .ok val w' ->r= .ok (.value val) w')
  (hS: (H' =H/\xs=[]/\sv= .slice none 0 0)\/ ∃id,H' =Zbl H id none/\H id≠none/\((xs=[]/\sv= .slice none 0 0)\/ ∃b cap cs e css,ow id b/\sv= .slice (some ⟨b,0,none⟩) xs.length cap/\w.heap[b]? =some (.cells cs e (0,0))/\
   xs.length<=cap/\cap*t.size<=cs.size/\Fa (Rd w g.I t) xs css/\css.flatten<+:cs.toList)):Did B (Zbl H' nid (some (.vec t (xs++ys)))) w g nid (.vw nid) r:=by
 obtain⟨xb,c,css2,rfl,hfa2,hl2⟩:=hX;have hlen: (xs++ys).length=xs.length+ys.length:=Vk
 have hR' :RH B H' w g ow:=by
  rcases hS with ⟨rfl,_⟩ | ⟨id,rfl,_⟩
  ·omega
  ·exact hR.drop id
 have hfn: ∀w',ZaM w w' ->(Vc ie.size ys.length (.slice xb ys.length c)).run P w' = .ok css2.flatten.toArray w' :=by
  intro w' hw;rw[hsz];by_cases hy:ys=[]
  ·subst hy;have:css2=[]:=by have:=hfa2.length;grind
   subst this
   cases xb with
   |none=>rfl
   |some ad=>exact run_firstCells_some (P:=P) w' _ _ ad _ _ [] (by simp) (by simp)
  ·obtain⟨b,off,rfl,hL⟩:=hl2 hy;exact Zg3 (Rd.all_length hfa2) hfa2.length.symm hL hw
 have hO: ∃base cap css1,sv= .slice base xs.length cap/\Fa (Rd w g.I t) xs css1/\(∀w',ZaM w w' ->(Vc ie.size xs.length (.slice base xs.length cap)).run P w' = .ok css1.flatten.toArray w')/\
   ((base=none/\cap=0/\xs=[])\/ ∃id b cs e,H' =Zbl H id none/\H id≠none/\ow id b/\base=some ⟨b,0,none⟩/\w.heap[b]? =some (.cells cs e (0,0))/\cap*t.size<=cs.size/\css1.flatten<+:cs.toList):=by
  rcases hS with ⟨_,rfl,rfl⟩ | ⟨id,hH',hid,⟨rfl,rfl⟩ | ⟨b,cap,cs,e,css,ho,rfl,hh,_,hcap,hfa,hc⟩⟩
  ·exact⟨none,0,[],rfl,trivial,fun w' _=>by rfl,by simp⟩
  ·exact⟨none,0,[],rfl,trivial,fun w' _=>by rfl,by simp⟩
  ·refine⟨_,cap,css,rfl,hfa,fun w' hw=> ?_,by grind⟩;rw[hsz];exact Zg3 (Rd.all_length hfa) hfa.length.symm (ZcC.of_vec hh hc) hw
 obtain⟨base,cap,css1,rfl,hfa1,hfo,hbase⟩:=hO;have hl1' :=Zap (Rd.all_length hfa1);have hl2' :=Zap (Rd.all_length hfa2);rw[<-hfa1.length]at hl1';rw[<-hfa2.length]at hl2';rcases Zfp (ty:=ty) h0 h1 hu hu1 hie hz hby hfo hfn hmx with ⟨hroom,hrun⟩ | ⟨cap',w1,hc',hw1,hrun⟩
 ·
  rcases hbase with ⟨rfl,rfl,rfl⟩ | ⟨id,b,cs,e,rfl,hid,ho,rfl,hh,hcap,hc⟩
  ·have hy:ys=[]:=by grind
   subst hy;have hr' :=hr _ _ (hrun.trans (by simp only[Vg,Vh,Vf];rfl));refine⟨_,w,g.add nid t none (.slice none 0 0),Zc4 ow nid (fun _=>False), .inl hr', ?_,Gh.le_add hnk _ _ _,fun _ _=>rfl, ?_, ?_⟩
   ·exact hR'.add hnk (by simp) (Vb _) rfl rfl ⟨rfl,Vb _⟩ (by simp) ⟨by simp [Gh.add], .inl ⟨rfl,by simp [Gh.add],by simp [Gh.add]⟩⟩
   ·refine ZaR ?_ rfl rfl;simp only[CV];exact⟨.inl rfl,by simp [Gh.add],by simp [Gh.add,Vx]⟩
   ·intro id h;rcases h with rfl|h
    ·exact .inr ⟨Vb _,by unfold ZaU;omega⟩
    grind
  ·obtain⟨rest,hrest⟩:=hc;have hsum:cs.size=css1.flatten.length+rest.length:=by rw[<-Vr, <-hrest,Vk]
   have hmul: (xs.length+ys.length) *t.size<=cap*t.size:=Nat.mul_le_mul_right _ hroom;rw[Vp]at hmul;have hs:=hR.sep id b hid ho
   have hone: ∀u∈css2.flatten,u.oneCell' =true:=by
    intro u hu;obtain⟨c1,hc1,hu⟩:=List.mem_flatten.1 hu;obtain⟨i,hi,rfl⟩:=Vs hc1;have hi' :i<ys.length:=by rw[hfa2.length];omega
    obtain⟨c',h2,h3⟩:=hfa2.get i ys[i] (by simp);rw[Vn hi]at h2;cases h2;exact Rd.oneCell t _ _ h3 u hu
   have hst:=run_storeCells_at P b (xs.length*t.size) e css2.flatten 0 cs w hh (by omega) hone
   have hnew: (cs.toList.take (xs.length*t.size+0)++css2.flatten++cs.toList.drop (xs.length*t.size+0+css2.flatten.length))=(css1++css2).flatten++rest.drop css2.flatten.length:=by rw[Nat.add_zero, <-hl1', <-hrest,List.take_left,List.flatten_append,List.drop_append,List.drop_eq_nil_of_le (by omega)];simp
   rw[hnew]at hst
   have hr' :=hr (.slice (some ⟨b,0,none⟩) (xs.length+ys.length) cap) (w.setRow b ((css1++css2).flatten++rest.drop css2.flatten.length).toArray) (hrun.trans (by simp only[Vg,Zb4,hsz,Vu,hst,Vf,Vh]))
   have hfree: ∀k,Zbl H id none k≠none-> ¬ow k b:=by intro k hk hb;obtain⟨h3,h4⟩:=Za8 hk;exact h3 (hR.dist k id b h4 hid hb ho)
   have hR2:=hR'.free (w' :=w.setRow b ((css1++css2).flatten++rest.drop css2.flatten.length).toArray) hfree hs.1 hs.2.2 (fun k hk=>setRow_other w b k _ hk) (size_setRow w b _) rfl rfl ⟨rfl,Vb _⟩;have hag:ZaV g.I w (w.setRow b ((css1++css2).flatten++rest.drop css2.flatten.length).toArray):=fun k hk=>setRow_other w b k _ (by grind);refine⟨_,_,g.add nid t (some b) (.slice (some ⟨b,0,none⟩) (xs++ys).length cap),Zc4 ow nid (fun k=>k=b), .inl hr', ?_,Gh.le_add hnk _ _ _,hag, ?_, ?_⟩
   ·refine hR2.add hnk (by simp) (Vb _) rfl rfl ⟨rfl,Vb _⟩ (fun k hk=> ?_) ?_
    ·simp_all
    ·refine⟨by simp [Gh.add], .inr ⟨b,cap,_,e,css1++css2,by simp [Gh.add],rfl,by simp [Gh.add],ZbJ hh,by omega, ?_, ?_,by simp⟩⟩
     ·grind
     ·exact(hfa1.append hfa2).mono fun x c hx=>Rd.mono hag (fun _ h=>h) t x c hx
   ·refine ZaR ?_ rfl rfl;simp only[CV];exact⟨.inl rfl,by simp [Gh.add,hlen],by simp [Gh.add,Vx]⟩
   ·intro id h;rcases h with rfl|h
    ·exact .inr ⟨Vb _,by unfold ZaU;omega⟩
    grind
 ·have hr' :=hr _ _ hrun;refine Zh8 hR' hnk (hfa1.append hfa2) ?_ (by rw[hlen];omega) ?_ hw1 (by rw[hlen];omega)
  ·simp
  ·have hzc: (Va z.cells (cap' - (xs.length+ys.length))).size=(cap' - (xs.length+ys.length)) *t.size:=by simp [Va,hzs]
   simp only[Vv,List.size_toArray,hl1',hl2',hzc]
   have:cap' *t.size=xs.length*t.size+ys.length*t.size+(cap' - (xs.length+ys.length)) *t.size:=by rw[<-Vp, <-Vp];grind
   omega
theorem Znn{id ver tmp:Nat}{kt:Ty}{k:El kt}{val:Value}{r: (t:Ty) ×List (El t)}{o' :Zc0}{l l' l2 l2' :List Nat}(hR:RH B H w g ow)(hv:VR w g (.nw id ver kt k) val)(hacc: (Zcr id ver kt k).run H l=some (r,l'))(hhole: (Zjv id nid kt k).run H l2=some (o',l2'))
  (htmp: ¬g.K tmp): ∃g2 ow2,RH B (Zbl (Zbl H id (some o')) tmp (some (.vec r.1 r.2))) w g2 ow2/\g.Le g2/\g2.I=g.I/\(∀i,g2.K i->g.K i\/i=tmp)/\(∀b,ow2 tmp b↔ZeN val=some b)/\id≠tmp:=by
 obtain⟨hK,_,_,_⟩:=hv.nw;obtain⟨hidl,hty,hver,hval,hrow⟩:=Zdf hR hv hacc;have hidt:id≠tmp:=by grind
 have hsep: ∀b,ow id b-> ¬g.I b/\b<w.heap.size/\(B.own0 b\/B.w0.heap.size<=b):=fun b hb=>hR.sep id b hidl hb
 have hO:g.ver id<nid/\ZeB w (g.bump id nid (g.row id)) (fun b=>ow id b/\ZeN val≠some b) id o' :=by
  have hrowE: (g.bump id nid (g.row id)).row id=g.row id:=by simp [Gh.bump]
  simp only[Zcr]at hacc;rw[Zag]at hacc;simp only[Zjv]at hhole;rw[Zag]at hhole;split at hacc
  ·rename_i t xs u hH;rw[hH]at hhole;simp only[Zae,Zac,Zab,Zaa,and_false,or_false]at hacc hhole;obtain⟨hu,i',hi',x,hx,rfl,_⟩:=hacc;obtain⟨hlt,i2,hi2,rfl,_⟩:=hhole;obtain⟨rfl,rfl⟩:=Zan hi';have:=Zdh hi2;subst this;obtain⟨_,hty,hver2,hrf,hO⟩:=hR.objs id _ hH;refine⟨by simp_all,hty,by simp [Gh.bump], ?_, ?_⟩
   ·unfold idx at hx;split at hx
    ·rename_i h0;have e1: ((i2.toNat:Nat):Int)=i2:=Vi h0;rw[hrowE];refine hrf.take i2.toNat fun j x' hx' hj hr=>hr.mono (fun _ _=>rfl) (by simp) (fun b hb h=>⟨h,fun hb2=> ?_⟩) (by simp);rw[hval]at hb2;exact hrf.ds j i2.toNat x' x b hx' hx hj (by simp) (by simp) hb (by grind)
    grind
   ·rcases hO with h| ⟨b,cap,cs,e,h1,h2,h3,h4,h5,h6,h7⟩
    ·exact .inl h
    ·refine .inr ⟨b,cap,cs,e,h1,⟨h2,fun hb=> ?_⟩,h3,h4,h5,h6,by grind⟩;unfold idx at hx;split at hx
     ·rename_i h0;have e1: ((i2.toNat:Nat):Int)=i2:=Vi h0;rw[hval]at hb;exact hrf.tp i2.toNat x b hx (by simp) (by grind) h1
     grind
  ·rename_i kt' t m u hH;rw[hH]at hhole;simp only[Zae,Zac,Zab,Zaa,and_false,or_false,Bool.and_eq_true]at hacc hhole;obtain⟨⟨hu,hko⟩,k',hk',rfl,_⟩:=hacc;obtain⟨hlt,k2,hk2,rfl,_⟩:=hhole;obtain⟨rfl,rfl⟩:=Zan hk';have:=Zdh hk2;subst this;obtain⟨_,hty,hver2,hrf,hnd,habs,b,es,clock,h1,h2,h3,h4⟩:=hR.objs id _ hH
   have hin: ∀b',ZeN val=some b' -> ∃x,(k2,x)∈m:=fun b' hb' =>by
    by_cases h:k2∈m.map Prod.fst
    ·grind
    ·rw[hval,habs k2 h]at hb';simp [ZeN]at hb'
   refine⟨by simp_all,hty,by simp [Gh.bump], ?_,hnd,by grind,b,es,clock,h1,⟨h2,fun hb=> ?_⟩,h3,by rw[hrowE];assumption⟩
   ·rw[hrowE];refine hrf.take k2 fun j x' hx' hj hr=>hr.mono (fun _ _=>rfl) (by simp) (fun b' hb' h=>⟨h,fun hb2=> ?_⟩) (by simp);obtain⟨x,hx⟩:=hin b' hb2;rw[hval]at hb2;exact hrf.ds j k2 x' x b' hx' hx hj (by simp) (by simp) hb' hb2
   ·obtain⟨x,hx⟩:=hin b hb;rw[hval]at hb;exact hrf.tp k2 x b hx (by simp) hb h1
  ·simp [Zaa]at hacc
 have hR1:=hR.bump (w' :=w) hK hO.1 (by simp) (Vb _) rfl rfl ⟨rfl,Vb _⟩ (by simp) (fun b hb=>by obtain⟨p,q,r⟩:=hsep b hb.1;exact⟨p,q,r,fun k hk h1 h2=>hk (hR.dist k id b h1 hidl h2 hb.1)⟩) hO.2
 have htmp1: ¬ (g.bump id nid (g.row id)).K tmp:=htmp
 have hfree: ∀b,ZeN val=some b->ow id b/\ ¬g.I b/\b<w.heap.size/\(B.own0 b\/B.w0.heap.size<=b)/\ ∀k,Zbl H id (some o') k≠none-> ¬Zc4 ow id (fun b=>ow id b/\ZeN val≠some b) k b:=fun b hb=>by
  have hob:=hrow.own hb;obtain⟨p,q,r⟩:=hsep b hob;refine⟨hob,p,q,r,fun k h1 h2=> ?_⟩;by_cases hk:k=id
  ·subst hk;rw[ZaD]at h2;grind
  ·rw[Zat hk]at h1;rw[ZaI hk]at h2;exact hk (hR.dist k id b h1 hidl h2 hob)
 have hvec: ∃b,ZeB w ((g.bump id nid (g.row id)).add tmp r.1 b val) (fun b=>ZeN val=some b) tmp (.vec r.1 r.2):=by
  rcases hrow with ⟨h1,h2⟩ | ⟨b,cap,cs,e,css,h2,_,hh,h5,h6,hfa,hc⟩
  ·exact⟨none,by simp [Gh.add], .inl ⟨h1,by simp [Gh.add],by simp [Gh.add,h2]⟩⟩
  ·exact⟨some b,by simp [Gh.add], .inr ⟨b,cap,cs,e,css,by simp [Gh.add],by rw[h2];rfl,by simp [Gh.add,h2],hh,h5,h6,hfa,hc⟩⟩
 obtain⟨b,hvec⟩:=hvec;refine⟨_,_,hR1.add htmp1 (by simp) (Vb _) rfl rfl ⟨rfl,Vb _⟩ (fun c hc=>(hfree c hc).2) hvec,(Gh.le_bump hO.1).trans (Gh.le_add htmp1 _ _ _),rfl,fun i hi=> ?_,fun c=> ?_,hidt⟩
 ·rcases hi with h|h
  ·omega
  ·exact .inl h
 ·rw[ZaD]
theorem ZhX{b cap n:Nat}{hd:List Value}{cs:Array Value}{e:TypeId}(hh:w.heap[b]? =some (.cells cs e (0,0)))(hl:hd.length=n)(hc: ∀i,i<n->cs[i]? =some (hd.getD i undef)){w' :World}(hw:ZaM w w'):
  (Vc 1 n (.slice (some ⟨b,0,none⟩) n cap)).run P w' = .ok hd.toArray w' :=by
 refine run_firstCells_some (P:=P) w' 1 n _ n cap _ (by omega) ?_;intro j u hj;obtain⟨hlt,rfl⟩:=Vm.1 hj;have:=hc j (by omega);rw[Zb4];simp only[Vz,hw.heap,hh,Vu]
 grind
theorem ZjL{t:Ty}{ie:TypeInfo}{z:Value}{T0 T1 Et E1 ty:TypeId}{argTypes:Array TypeId}{sv xv:Value}{xs ys:List (List (El t))}{ids1 ids2:List Nat}{r:Result Next}(hR:RH B H w g ow)(hnk: ¬g.K nid)
  (h0:argTypes[0]? =some T0) (h1:argTypes[1]? =some T1) (hu:P.underlying T0=some (.slice Et)) (hu1:P.underlying T1=some (.slice E1))
  (hie:P.info? Et=some ie) (hz:ie.zero=some z) (hzs:z.cells.size=(Ty.sl t).size) (hsz:ie.size=(Ty.sl t).size) (hby:ie.bytes<=256) (hmx:xs.length+ys.length<=549755813888)
  (hS:ZbL w g.I (ZaC H ow ids1) t xs sv) (hX:ZbL w g.I (ZaC H ow ids2) t ys xv) (hdis: ∀k,k∈ids1->k ∉ ids2)
  (hr: ∀val w',(Vd argTypes ty #[sv,xv]).run P w= .ok val w' ->r= .ok (.value val) w'):Did B (Zad (Zad H ((ids1++ids2).map fun id=>(id,none))) [(nid,some (.rows t (xs++ys) 0 none))]) w g nid (.vw nid) r:=by
 show Did B (Zbl _ nid _) _ _ _ _ _;have hsz1:ie.size=1:=hsz;obtain⟨hd1,hrl1,ht1⟩:=hS;obtain⟨hd2,hrl2,ht2⟩:=hX;have hR1:RH B (Zad H ((ids1++ids2).map fun id=>(id,none))) w g ow:=hR.drops _
 have hJ: ∀b,ZaC H ow ids1 b-> ¬ZaC H ow ids2 b:=fun b ⟨k,a1,a2,a3⟩ ⟨k',b1,b2,b3⟩=>by
  have:=hR.dist k k' b a2 b2 a3 b3
  grind
 have hRL:=hrl1.append hrl2 hJ
 have hRL:RL w g.I (ZaC H ow (ids1++ids2)) t (hd1++hd2) (xs++ys):=hRL.mono (fun _ _=>rfl) (by simp) (fun b hb=>by
  rcases hb with ⟨k,a1,a2⟩ | ⟨k,a1,a2⟩
  ·exact⟨k,by grind,a2⟩
  ·exact⟨k,by grind,a2⟩) (by simp)
 have hbig: ∀b,ZaC H ow (ids1++ids2) b->b<w.heap.size:=fun b ⟨k,_,a2,a3⟩=>(hR.sep k b a2 a3).2.1;have hl1:=hrl1.1;have hl2:=hrl2.1
 have hxv: ∃xb c,xv= .slice xb ys.length c/\ ∀w',ZaM w w' ->(Vc ie.size ys.length (.slice xb ys.length c)).run P w' = .ok hd2.toArray w' :=by
  rw[hsz1];rcases ht2 with ⟨rfl,rfl⟩ | ⟨b,cap,cs,e,_,_,rfl,hh,_,_,hcs⟩
  ·have:hd2=[]:=by grind
   subst this;exact⟨none,0,rfl,fun w' _=>by rfl⟩
  ·exact⟨_,cap,rfl,fun w' hw=>ZhX hh hl2 hcs hw⟩
 obtain⟨xb,c,rfl,hfn⟩:=hxv
 have hsv: ∃base cap,sv= .slice base xs.length cap/\(∀w',ZaM w w' ->(Vc ie.size xs.length (.slice base xs.length cap)).run P w' = .ok hd1.toArray w')/\((base=none/\cap=0/\xs=[])\/
   ∃b cs e,ZaC H ow ids1 b/\base=some ⟨b,0,none⟩/\w.heap[b]? =some (.cells cs e (0,0))/\cap<=cs.size/\(∀i,i<xs.length->cs[i]? =some (hd1.getD i undef))/\ ∀i x,xs[i]? =some x->ZeN (hd1.getD i undef)≠some b):=by
  rw[hsz1];rcases ht1 with ⟨rfl,rfl⟩ | ⟨b,cap,cs,e,hJb,hne,rfl,hh,_,hcap,hcs⟩
  ·have:hd1=[]:=by grind
   subst this;exact⟨none,0,rfl,fun w' _=>by rfl,by simp⟩
  ·exact⟨_,cap,rfl,fun w' hw=>ZhX hh hl1 hcs hw,by grind⟩
 obtain⟨base,cap,rfl,hfo,hbase⟩:=hsv;have hlen: (xs++ys).length=xs.length+ys.length:=Vk;rcases Zfp (ty:=ty) h0 h1 hu hu1 hie hz hby hfo hfn hmx with ⟨hroom,hrun⟩ | ⟨cap',w1,hc',hw1,hrun⟩
 ·rcases hbase with ⟨rfl,rfl,rfl⟩ | ⟨b,cs,e,⟨kb,hkb,hkl,hkb2⟩,rfl,hh,hcap,hcs,hne⟩
  ·have hy:ys=[]:=by grind
   subst hy;have hr' :=hr _ _ (hrun.trans (by simp only[Vg,Vh,Vf];rfl));exact Ze2 (J:=fun _=>False) hR1 hnk (by simp) (Vb _) rfl rfl ⟨rfl,Vb _⟩ hr' ⟨[],RL.nil,by simp⟩ (by simp)
  ·have hs:=hR.sep kb b hkl hkb2
   have hone: ∀u∈hd2,u.oneCell' =true:=by
    intro u hu;obtain⟨i,hi,rfl⟩:=Vs hu;have hi' :i<ys.length:=by omega
    have:=(hrl2.row (Vn hi')).one.1
    grind
   have hst:=run_storeCells_at P b (xs.length*1) e hd2 0 cs w hh (by omega) hone
   have htake:cs.toList.take xs.length=hd1:=by
    apply List.ext_getElem?
    grind
   have hnew: (cs.toList.take (xs.length*1+0)++hd2++cs.toList.drop (xs.length*1+0+hd2.length))=(hd1++hd2)++cs.toList.drop (xs.length+hd2.length):=by
    grind
   rw[hnew]at hst
   have hr' :=hr (.slice (some ⟨b,0,none⟩) (xs.length+ys.length) cap) (w.setRow b ((hd1++hd2)++cs.toList.drop (xs.length+hd2.length)).toArray) (hrun.trans (by simp only[Vg,Zb4,hsz1,Vu,hst,Vf,Vh]))
   have hother: ∀k,k≠b->(w.setRow b ((hd1++hd2)++cs.toList.drop (xs.length+hd2.length)).toArray).heap[k]? =w.heap[k]? :=fun k hk=>setRow_other w b k _ hk;have hfr:=Zcg (ids:=ids1++ids2) hR (b:=b) ⟨kb,by grind,hkl,hkb2⟩;have hR2:=hR1.free (w' :=w.setRow b ((hd1++hd2)++cs.toList.drop (xs.length+hd2.length)).toArray) (b:=b) hfr.2.2.2 hs.1 hs.2.2 hother (size_setRow w b _) rfl rfl ⟨rfl,Vb _⟩;have hag:ZaV g.I w (w.setRow b ((hd1++hd2)++cs.toList.drop (xs.length+hd2.length)).toArray):=fun k hk=>by grind
   have hrne: ∀i x,(xs++ys)[i]? =some x->ZeN ((hd1++hd2).getD i undef)≠some b:=by
    intro i x hx hb;rcases Nat.lt_or_ge i xs.length with hl|hl
    ·grind
    ·rw[List.getElem?_append_right hl]at hx;have: (hd1++hd2).getD i undef=hd2.getD (i - xs.length) undef:=by grind
     rw[this]at hb;exact hJ b ⟨kb,hkb,hkl,hkb2⟩ ((hrl2.row hx).own hb)
   have hdid:=Ze2 (w' :=w.setRow b ((hd1++hd2)++cs.toList.drop (xs.length+hd2.length)).toArray) (J:=ZaC H ow (ids1++ids2)) (t:=t) (xs:=xs++ys) hR2 hnk (by simp) (Vb _) rfl rfl ⟨rfl,Vb _⟩ hr' ?_ (fun b' hb' => ?_)
   ·obtain⟨val,w',g',ow',d1,d2,d3,d4,d5,d6⟩:=hdid;exact⟨val,w',g',ow',d1,d2,d3,by grind,d5,d6⟩
   ·refine⟨hd1++hd2,hRL.mono hag (by simp) (by grind) (by grind), .inr ⟨b,cap,_,e, .inl ⟨kb,by grind,hkl,hkb2⟩,hrne,by simp,ZbJ hh,by omega, ?_,by grind⟩⟩
    all_goals grind
   ·obtain⟨p,q,r,s⟩:=Zcg hR hb'
    simp_all
 ·have hr' :=hr _ _ hrun;have hR2:=hR1.same hw1;have hsize:w1.heap.size=w.heap.size:=by rw[hw1.heap]
  have hdid:=Ze2 (w' :=w1.alloc (.cells (hd1.toArray++hd2.toArray++Va z.cells (cap' - (xs.length+ys.length))) Et)) (J:=ZaC H ow (ids1++ids2)) (t:=t) (xs:=xs++ys) hR2 hnk (fun k hk=>Zbk hk) (by simp) rfl rfl ⟨rfl,Vb _⟩ hr' ?_ (fun b' hb' => ?_)
  ·obtain⟨val,w',g',ow',d1,d2,d3,d4,d5,d6⟩:=hdid;exact⟨val,w',g',ow',d1,d2,d3,fun k hk=>(d4 k hk).trans (hw1.agree g.I k hk),d5,d6⟩
  ·have hb0: ∀b,b<w.heap.size->(w1.alloc (.cells (hd1.toArray++hd2.toArray++Va z.cells (cap' - (xs.length+ys.length))) Et)).heap[b]? =w.heap[b]? :=fun b hb=>by rw[Zbk (by omega),hw1.heap]
   refine⟨hd1++hd2,hRL.mono (fun b hb=>hb0 b (hR.ilt b hb)) (by simp) (by grind) (fun i x b' hx hb' =>hb0 b' (hbig b' ((hRL.row hx).own hb'))), .inr ⟨w1.heap.size,cap',_,Et,by simp,fun i x hx hb' => ?_,by grind,Zbi _ _,by omega, ?_,fun i hi=> ?_⟩⟩
   ·have:=hbig _ ((hRL.row hx).own hb');omega
   ·have hzc: (Va z.cells (cap' - (xs.length+ys.length))).size=(cap' - (xs.length+ys.length)) *1:=by simp [Va,hzs,Ty.size]
    grind
   grind
  ·obtain⟨p,q,r,s⟩:=Zcg hR hb'
   grind
theorem ZfY{T0 T1 ty Et:TypeId}{ie:TypeInfo}{z:Value}{argTypes:Array TypeId}{k0 k:IntKind}(h0:argTypes[0]? =some T0)(h1:argTypes[1]? =some T1)(hu:P.underlying T0=some (.slice Et))(hu1:P.underlying T1=some (.int k0))
  (hie:P.info? Et=some ie) (hz:ie.zero=some z) (hzs:z.cells.size=ie.size) (hby:ie.bytes<=256) {n:Nat} (hn:0<n) (hmx:n<=549755813888):
  ∃cap' w1 zc,n<=cap' /\ZaM w w1/\zc.toList=(Vj n z.cells.toList).flatten/\(Vd argTypes ty #[.slice none 0 0, .int k (n:Int)]).run P w= .ok (.slice (some ⟨w.heap.size,0,none⟩) n cap') (w1.alloc (.cells (zc++Va z.cells (cap' - n)) Et)):=by
 have hwn:Vaa.wrap (n:Int)=(n:Int):=by
  have hw64: ∀x:Int,Vaa.wrap x=(x+9223372036854775808) % 18446744073709551616 - 9223372036854775808:=fun x=>by simp [IntKind.wrap,IntKind.bits,IntKind.signed];omega
  grind
 have hbytes: ¬ (281474976710656< (n:Int) * (ie.bytes:Int)):=by have h1: (n:Int) * (ie.bytes:Int)<=549755813888*256:=Int.mul_le_mul (by omega) (by omega) (by omega) (by omega);omega
 have h63: ¬ (9223372036854775807< (n:Int)):=by omega
 have h48: ¬ (281474976710656<Vq n 0*ie.bytes):=by have:=growslice_fits (need:=n) (old:=0) (bytes:=ie.bytes) (by omega) (Nat.le_trans (Vw hmx hby) (by decide));omega
 have hz0:=ZbR z.cells n;have hn0:n≠0:=by omega
 have hneg: ¬ ((n:Int)<0):=by omega
 have hfc: ∀w' :World,(Vc ie.size 0 (.slice none 0 0)).run P w' = .ok #[] w' :=fun w' =>by rfl
 refine⟨grownCap w n 0 Et,w.drew,if n*ie.size=0 then #[] else Va z.cells n,grownCap_ge ..,⟨rfl,rfl,rfl,⟨rfl,by simp⟩⟩, ?_, ?_⟩
 ·rw[<-hz0];by_cases hsz:n*ie.size=0
  ·grind
  ·rw[if_neg hsz];rfl
 ·by_cases hsz:n*ie.size=0
  ·simp [Vd,h0,h1,run_underlying hu,run_underlying hu1,Go.sizeOf,typeInfo,zeroValue,hie,hz,asInt,asIntOf,hwn,hbytes,hn0,h63,h48,Question.forced,newRow,grownCap,hsz,hneg,hfc]
  ·simp [Vd,h0,h1,run_underlying hu,run_underlying hu1,Go.sizeOf,typeInfo,zeroValue,hie,hz,asInt,asIntOf,hwn,hbytes,hn0,h63,h48,Question.forced,newRow,grownCap,hsz,hneg,hfc]
theorem Zln{c:Call}(hT:Zah P E)(hR:RH B H w g ow)(hF:Fr w g F a.tmps)(hk: ∀id,g.K id->id<nid\/nid+ZaU<=id)(ho:o.op= .call c)(hc:c.callee= .builtin .append)
  (h: (Za1 E nid o.op o.type (aev F)).run H []=some ((v,patch),rd)):Did B (Zad H patch) w g nid v ((execOp a.eval o).run P w):=by
 rw[ho]at h;simp only[Za1,hc]at h;split at h
 ·rename_i s x t hargs hty;rw[Zae]at h
  have hargs' :c.args.map a.eval= #[a.eval s,a.eval x]:=by
   have:c.args= #[s,x]:=by grind
   grind
  obtain⟨T0,h0,ht0⟩:=Vo.1 hty;rcases h with ⟨_,h⟩ | ⟨hs1,h⟩
  ·split at h
   ·rename_i k n k0 hs hx hT1;simp only[Zae,Zaa,and_false,false_or,Bool.or_eq_false_iff,Vt]at h;obtain⟨⟨_,hd⟩,h⟩:=h;simp only[ZqV,Zac,Zab,Ve]at h;obtain⟨u,hg,⟨rfl,rfl⟩,_⟩:=h;have hg: (1:Int)<=n/\n<=(Zax:Int):=of_decide_eq_true (ZaK hg);obtain⟨T1,h1,ht1⟩:=Vo.1 hT1;obtain⟨Et,hu,hEt⟩:=Zar hT ht0
    have hu1:P.underlying T1=some (.int k0):=by
     have hsh:=(hT.ty T1 _ ht1).shape
     cases hu:P.underlying T1 with
     |none=>rw[hu]at hsh;simp [Zak]at hsh
     |some d=>rw[hu]at hsh;cases d<;>simp [Zak]at hsh;grind
    obtain⟨ie,z,hie,hsz,hz,hzs,_,hrows⟩:=Ze4 (w:=w) (g:=g) hT hEt hd;have hby:=(hT.ty _ _ ht0).small _ _ hu hie;have hvs:a.eval s= .slice none 0 0:=(hs▸hF.eval s).nils;have hvx:=VR.int (hx▸hF.eval x);obtain⟨m,hm⟩: ∃m:Nat,n=(m:Int):=⟨_,(Vi (by omega)).symm⟩;subst hm
    have hmx:m<=549755813888:=by have h2: (m:Int)<=((549755813888:Nat):Int):=hg.2;omega
    obtain⟨cap',w1,zc,c1,c2,c3,c4⟩:=ZfY (P:=P) (w:=w) (ty:=o.type) (k:=k) h0 h1 hu hu1 hie hz (by omega) hby (n:=m) (by omega) hmx
    have hrun: (execOp a.eval o).run P w= .ok (.value (.slice (some ⟨w.heap.size,0,none⟩) m cap')) (w1.alloc (.cells (zc++Va z.cells (cap' - m)) Et)):=by rw[hvs,hvx]at hargs';simp only[execOp,ho,ZaL hc,builtin,hargs',Vg,c4,Vf,Vh]
    have hlen: (Vj ((m:Int)).toNat (zeroEl t)).length=m:=by simp
    refine Zh8 hR (ZdF hk) (w1:=w1) (cells:=zc++Va z.cells (cap' - m)) (T:=Et) (cap:=cap') (css:=Vj m z.cells.toList) (by grind) ?_ (by omega) ?_ c2 (by grind)
    ·grind
    ·have e1:zc.size=m*t.size:=by rw[<-Vr,c3,Zap (css:=Vj m z.cells.toList) (n:=t.size) (by grind),List.length_replicate]
     have e2: (Va z.cells (cap' - m)).size=(cap' - m) *t.size:=by simp [Va,hzs]
     rw[Vv,e1,e2, <-Vp]
     grind
   ·simp [Zaa]at h
  simp only[Vt]at hs1;simp only[Zae]at h
  have: ∃T1 t1,c.argTypes[1]? =some T1/\E.ty T1=some (.sl t1):=by
   cases hh:c.argTypes[1]? with
   |none=>rw[hh]at hs1;simp [Zdy]at hs1
   |some T1=>
    rw[hh]at hs1;simp only[Option.bind_some]at hs1
    cases ht:E.ty T1 with
    |none=>rw[ht]at hs1;simp [Zdy]at hs1
    |some t1=>cases t1<;>rw[ht]at hs1<;>simp [Zdy]at hs1;grind
  obtain⟨T1,t1,h1,ht1⟩:=this;obtain⟨Et,hu,hEt⟩:=Zar hT ht0;obtain⟨E1,hu1,_⟩:=Zar hT ht1;obtain⟨ie,z,hie,hsz,_,hz,hzok,_⟩:=(hT.ty Et _ hEt).info;have hby:=(hT.ty _ _ ht0).small _ _ hu hie
  have hzs:z.cells.size=t.size:=by obtain⟨h3,h4⟩:=ZdU (w:=w) (g:=g) hzok;have:=CV.length _ t _ h4 h3;omega
  have hrun: ∀val w',(Vd c.argTypes o.type #[a.eval s,a.eval x]).run P w= .ok val w' ->(execOp a.eval o).run P w= .ok (.value val) w' :=by intro val w' hrun;simp only[execOp,ho,ZaL hc,builtin,hargs',Vg,hrun,Vf,Vh]
  rcases h with ⟨_,h⟩ | ⟨_,h⟩
  ·split at h
   ·rename_i t';simp only[Zqj,Zaj,Zac,Zab,Ve]at h;obtain⟨⟨xs,ids1⟩,m1,hS,⟨ys,ids2⟩,m2,hX,u,hg,u2,hg2,⟨rfl,rfl⟩,_⟩:=h;have hmx:xs.length+ys.length<=549755813888:=of_decide_eq_true (ZaK hg);obtain⟨n1,n2,n3⟩:=List.nodup_append.1 (Zea.1 (ZaK hg2));rw[Zau];exact ZjL hR (ZdF hk) h0 h1 hu hu1 hie hz hzs hsz hby hmx (Ze9 hR (hF.eval s) hS).1 (Ze9 hR (hF.eval x) hX).1 (by grind) hrun
   ·simp [Zaa]at h
  split at h
  ·rename_i id ver kt k hs';simp only[ZqE,Zaj,Zac,Zab,Ve]at h;obtain⟨r,m1,hacc,xs,hxs,⟨ys,ids2⟩,m2,hX,u,hg,u2,hg2,o',m3,hhole,⟨rfl,rfl⟩,_⟩:=h;obtain⟨he,rfl⟩:=ZbU hxs;obtain⟨t0,row⟩:=r;simp only at he;subst he;have hmx:row.length+ys.length<=549755813888:=of_decide_eq_true (ZaK hg);have htmp: ¬g.K (nid+1):=fun h=>by have:=hk _ h;unfold ZaU at this;omega
   have hsv:=hs' ▸hF.eval s;obtain⟨g2,ow2,hR2,hle,hI,hK2,how,hne⟩:=Znn hR hsv hacc hhole htmp;obtain⟨_,_,_,_,hrow⟩:=Zdf hR hsv hacc;have hX' :=Zc1 hR (hF.eval x) hX;have hX2:Zit w g2 t0 ys (a.eval x):=by unfold Zit at hX' ⊢;grind
   have hnk2: ¬g2.K nid:=fun h=>by
    rcases hK2 _ h with h|h
    ·exact ZdF hk h
    ·omega
   have hdid:=Zg2 (ty:=o.type) (H' :=Zbl (Zbl (Zbl H id (some o')) (nid+1) (some (.vec t0 row))) (nid+1) none) (xs:=row) hR2 hnk2 h0 h1 hu hu1 hie hz hzs hsz hby hmx hX2 hrun (sv:=a.eval s) (.inr ⟨nid+1,rfl,by rw[ZaT];simp,by
    rcases hrow with ⟨h3,h4⟩ | ⟨b,cap,cs,e,css,h3,_,h5,h6,h7,h8,h9⟩
    ·grind
    ·exact .inr ⟨b,cap,cs,e,css,(how b).2 (by rw[h3];rfl),h3,h5,h6,h7,by grind,h9⟩⟩)
   obtain⟨val,w',g',ow',d1,d2,d3,d4,d5,d6⟩:=hdid
   have hHtmp:H (nid+1)=none:=by
    cases hh:H (nid+1) with
    |none=>rfl
    |some ob=>exact absurd (hR.objs _ _ hh).1 htmp
   have hHe:Zbl (Zbl (Zbl (Zbl H id (some o')) (nid+1) (some (.vec t0 row))) (nid+1) none) nid (some (.vec t0 (row++ys)))=Zad H [(id,some o'),(nid,some (.vec t0 (row++ys)))]:=by
    simp only[Zad];funext q;by_cases q1:q=nid
    ·subst q1;rw[ZaT,ZaT]
    ·rw[Zat q1,Zat q1];by_cases q2:q=nid+1
     ·subst q2;rw[ZaT,Zat (Ne.symm hne),hHtmp]
     ·rw[Zat q2,Zat q2]
   rw[hHe]at d2;refine⟨val,w',g',ow',d1,d2,hle.trans d3,by grind,d5,fun q hq=> ?_⟩;rcases d6 q hq with h|h
   ·rcases hK2 q h with h|h
    ·grind
    ·exact .inr ⟨by omega,by unfold ZaU;omega⟩
   omega
  simp only[Zrq,Zaj,Zac,Zab,Ve]at h;obtain⟨⟨xs,ids⟩,m1,hS,⟨ys,ids2⟩,m2,hX,u,hg,⟨rfl,rfl⟩,_⟩:=h
  have hmx:xs.length+ys.length<=549755813888:=by
   unfold Zas at hg
   cases hd:decide (xs.length+ys.length<=Zax) with
   |true=>exact of_decide_eq_true hd
   |false=>grind
  have hO:=ZdY hR (hF.eval s) hS;have hX' :=Zc1 hR (hF.eval x) hX
  have hp:Zad H (ids.map (fun id=>(id,none))++[(nid,some (.vec t (xs++ys)))])=Zbl (Zad H (ids.map fun id=>(id,none))) nid (some (.vec t (xs++ys))):=by exact Zau _ _ _
  rw[hp];refine Zg2 (ty:=o.type) hR (ZdF hk) h0 h1 hu hu1 hie hz hzs hsz hby hmx hX' hrun (sv:=a.eval s) ?_
  ·rcases hO with ⟨rfl,rfl,h3⟩ | ⟨id,rfl,h3,h4⟩
   ·exact .inl ⟨rfl,rfl,h3⟩
   ·exact .inr ⟨id,rfl,h3,h4⟩
 ·simp [Zaa]at h
end ops
end Tr
