/- From the reading of the arguments in the form of the claims to data of the machine. Conditions: the types are data. -/
import Derived.OpenShut
import Derived.Carry
import Derived.ProofKit
import Derived.Lay
import Derived.LaidLaws
import Derived.SevenTiedAt
import Derived.Stop.LaidErr
import Derived.MakeChecks
import Derived.Shelf.SlSortCmp.NoneTotal
import Derived.Shelf.Sort.Plain
import Derived.Shelf.Slices.CompactI
import Derived.Shelf.Slices.In.SortNone
import Derived.Test.YtdpenljjnfmgiaaGreatETsC
open Array renaming getElem?_toList ->Vb,getElem?_append_left ->Ve,getElem?_eq_getElem ->Vf,getElem?_modify ->Vg,getD_eq_getD_getElem? ->Vo,replicate ->Vaa,getElem?_mapIdx ->Vda,length_toList ->Vfa
open Bool renaming and_eq_true ->Vi,false_eq_true ->Vga
open Go.IntKind renaming wrap ->Vsa
open List renaming getElem?_eq_getElem ->Va,pairwise_cons ->Vd,pairwise_iff_getElem ->Vj,getElem_mem ->Vl,getElem?_eq_none ->Vn,mem_cons ->Vp,getElem?_eq_some_iff ->Vq,getElem?_append_left ->Vr,range ->Vu,attach_map_subtype_val ->Vv,getElem?_take ->Vw,ext_getElem? ->Vx,getElem?_map ->Vy,prefix_iff_eq_take ->Vz,getLast?_cons ->Vha,map_map ->Via,mem_map ->Vja,nodup_append ->Vka,all_eq_true ->Vma,append_nil ->Vna,map_append ->Voa,replicate ->Vpa,map_cons ->Vqa,perm_nil ->Vra
open Nat renaming le_refl ->Vk,add_zero ->Vs,zero_le ->Vba
open Option renaming bind_eq_some_iff ->Vc,bind ->Vca
open Sum renaming elim ->Vta
open Go.Value renaming int ->Vh,cells ->Vm,okWide ->Vt
open Go.World renaming frozen? ->Vea,cell? ->Vla
open Option renaming some ->Ua,none ->Ub
open Bool renaming true ->Uc,false ->Ud
open Decidable renaming decide ->Ue
section
namespace Tr
open Go
def Y0:(t:Ty)->El t->Prop|.int k,x=>k.min<=x/\x<=k.max|.bool,_|.unit,_|.ref,_|.pt _,_|.lk _ _,_|.pn _,_=>True|.str,x=>x.length<=Go.maxLen|.sl t,x=>x.length<=Go.maxLen/\∀y∈x,Y0 t y|.prod a b,x=>Y0 a x.1/\Y0 b x.2|.arr n t,x=>x.length=n/\∀y∈x,Y0 t y
def Ty.firm:Ty->Bool|.ref|.pt _|.lk _ _|.pn _=>Ud|.sl t=>t.firm&& !(Nat.beq t.size 0)|.prod a b=>a.firm&&b.firm|.arr _ t=>t.firm|_=>Uc
theorem Zi4{α}{β}{r}{q:α->Prop}:∀(m:V β),(∀b∈m,∃a,r a b/\q a)->∃l,Fa r l m/\∀a∈l,q a|[],_=>⟨[],trivial,by simp⟩|b::m,h=>by have⟨a,e,i⟩:=h b (by simp);have⟨l,f,g⟩:=Zi4 m λd c=>h d (by simp[c]);refine⟨a::l,⟨e,f⟩,λx j=>?_⟩;grind
theorem KH.append{w b off l m}(c:KH w b off l)(d:KH w b (off+l.length) m):KH w b off (l++m):=by
 intro j e;by_cases a:j<l.length;.rw[List.getElem_append_left a];exact c j a
 have:=d (j - l.length) (by grind);grind
theorem KH.flat{w b n}:∀{css:V (V Y)}{off},(∀i c,css[i]? =Ua c->c.length=n/\KH w b (off+i*n) c)->KH w b off css.flatten|[],off,_=>by intro j l;grind|c::css,off,h=>by have⟨a,e⟩:=h 0 c (by simp);refine KH.append (by grind) (KH.flat (n:=n) λi d k=>?_);have⟨f,g⟩:=h (i+1) d (by grind);grind
section
variable {H:Type}{enc:Z×Y->H}{P:Program}{w:X}{sp:Nat->Bool}{held:Bool}
theorem Zl3{a n c}(h:w.cells? 0 a n=Ua c):c.length=n/\(∀j,(b:j<c.length)->w.cell? (a.add j)=Ua c[j]):=by
 have d:c.length=n:=by have:=mapM_some_length h;grind
 refine⟨d,λj b=>?_⟩;have:=mapM_some_get h j j (by grind);grind
theorem Zti{a v}(h:w.cell? a=Ua v):a.spot=Ub/\a.block<w.heap.size:=by
 unfold Vla at h;split at h
 .rename_i c t f b;refine⟨?_,?_⟩
  .simp_all
  grind
 grind
theorem Zl4{I fuel}{θ}(h:∀T t,θ T=Ua t->Jq P θ T t)
 (J:∀t T cs x,θ T=Ua t->t.firm=Uc->DataW.trod enc P w 0 sp held fuel T cs=Ua x->∃y,Rd w I t y cs/\Y0 t y) (cs:V Y) (xs:V (DataW H×V MemPlace)):
 ∀t (e:V Field) base,t.chain=Uc->t.firm=Uc->cs.length=base+t.size->
  (∀i fd,e[i]? =Ua fd->∃o d,ZV t [i]=Ua (o,d)/\fd.offset=base+o/\θ fd.type=Ua d)->ZV t [e.length]=Ub->
  (∀(i:Nat) f,e[i]? =Ua f->∃x,DataW.trod enc P w 0 sp held fuel f.type ((cs.drop f.offset).take (P.cellsOf f.type))=Ua x)->
  ∃y,Rd w I t y (cs.drop base)/\Y0 t y
 |.unit,e,base,_,_,j,_,_,_=>⟨(),by simp[Rd,Ty.size]at j⊢;grind,trivial⟩|.prod a b,[],base,c,g,j,m,n,p=>by simp[ZV]at n|.prod a b,fd::e,base,c,g,j,m,n,p=>by
  simp[Ty.firm]at g;have⟨o,d,k,K,D⟩:=m 0 fd (by simp);have L:o=0/\d=a:=by
   cases a<;>simp[ZV]at k<;>exact⟨k.1.symm,k.2.symm⟩
  obtain⟨rfl,rfl⟩:=L;have⟨x,O⟩:=p 0 fd (by simp);have⟨R,A,q⟩:=J _ _ _ _ D g.1 O;have v:P.cellsOf fd.type=d.size:=by have⟨i,z,l,F,_⟩:=(h _ _ D).info;simp[Program.cellsOf,l,F]
  have s:cs.length=base+d.size+b.size:=by rw[j];simp[Ty.size];omega
  have⟨S,C,r⟩:=Zl4 h J cs xs b e (base+d.size) c g.2 s (λi M N=>by have⟨o,Q,l,F,U⟩:=m (i+1) M (by grind);simp[ZV]at l;grind) (by simpa[ZV] using n) (λi f g=>p (i+1) f (by grind));refine⟨(R,S),?_,q,r⟩;refine⟨_,_,?_,A,C⟩
  rw[v,K,Vs,<-List.drop_drop,List.take_append_drop]|.int _,_,_,c,_,_,_,_,_|.bool,_,_,c,_,_,_,_,_|.str,_,_,c,_,_,_,_,_|.sl _,_,_,c,_,_,_,_,_|.arr _ _,_,_,c,_,_,_,_,_|.ref,_,_,c,_,_,_,_,_|.pt _,_,_,c,_,_,_,_,_|.lk _ _,_,_,c,_,_,_,_,_|.pn _,_,_,c,_,_,_,_,_=>by simp[Ty.chain]at c
theorem Zqk{n}:∀m (cs:V Y),cs.length=m*n->cs=((Vu m).map λi=>(cs.drop (i*n)).take n).flatten
 |0,cs,h=>by grind|m+1,cs,h=>by
  rw[List.range_succ_eq_map,Vqa,List.flatten_cons,Via];have a:(cs.drop n).length=m*n:=by grind
  have b:=Zqk m (cs.drop n) a;have e:((Vu m).map ((λi=>(cs.drop (i*n)).take n) ∘Nat.succ))=((Vu m).map λi=>((cs.drop n).drop (i*n)).take n):=by apply List.map_congr_left;intro i _;simp[Function.comp];grind
  rw[e,<-b];simp
theorem Zhg{θ}(o:∀T t,θ T=Ua t->Jq P θ T t):∀fuel t T cs x,θ T=Ua t->t.firm=Uc->
 DataW.trod enc P w 0 sp held fuel T cs=Ua x->∃y,Rd w (λb=>b<w.heap.size) t y cs/\Y0 t y
 |0,t,T,cs,x,_,_,h=>by simp[DataW.trod]at h|fuel+1,t,T,cs,x,K,C,h=>by
  have hk:=o _ _ K;have f:=hk.shape;have v:∀{T t},θ T=Ua t->P.cellsOf T=t.size:=by intro T t K;have⟨i,z,g1,g2,_⟩:=(o _ _ K).info;simp[Program.cellsOf,g1,g2]
  cases t with
  |int k=>
   cases g:P.underlying T with
   |none=>rw[g]at f;simp[Ka]at f|some d=>
    rw[g]at f;cases d<;>simp[Ka]at f;subst f;have⟨n,l,_,N⟩:=DataW.trod_int g h
    exact⟨n,l,by simpa[Lit.wf,Y0] using N⟩
  |bool=>
   cases g:P.underlying T with
   |none=>rw[g]at f;simp[Ka]at f|some d=>
    rw[g]at f;cases d<;>simp[Ka]at f;have⟨n,l,_⟩:=DataW.trod_bool g h
    exact⟨n,l,trivial⟩
  |str=>
   cases g:P.underlying T with
   |none=>rw[g]at f;simp[Ka]at f|some d=>
    rw[g]at f;cases d<;>simp[Ka]at f;have⟨s,l,_,N⟩:=DataW.trod_string g h;refine⟨s.data.toList,?_,?_⟩
    all_goals assumption
  |sl e=>
   cases g:P.underlying T with
   |none=>rw[g]at f;simp[Ka]at f|some d=>
    rw[g]at f;cases d<;>simp[Ka]at f;rename_i E;simp[Ty.firm,Vi,Bool.not_eq_true']at C;have a6:e.size≠0:=by intro A;simp_all
    obtain⟨l,_⟩|⟨a,len,cap,elems,rest,n,A,l,_,_,N,U,h4,h5,_⟩:=DataW.trod_slice g h;.exact⟨[],⟨Ub,0,[],l,trivial,by simp,Vk _⟩,Vba _,by simp⟩
    have R:n=fuel:=by omega
    subst R;rw[v f]at h5;have F:∀i,i<len->∃c x,w.cells? 0 (a.add (i*e.size)) e.size=Ua c/\DataW.trod enc P w 0 sp held n E c=Ua x:=by intro i Q;have:=h5 i Q;rw[Va (by omega)]at this;have⟨c,h6,h7⟩:=Vc.1 this;grind
    have D:∀i c,((Vu len).map λi=>(w.cells? 0 (a.add (i*e.size)) e.size).getD [])[i]? =Ua c->i<len/\w.cells? 0 (a.add (i*e.size)) e.size=Ua c/\∃x,DataW.trod enc P w 0 sp held n E c=Ua x:=by grind
    have⟨y,J,W⟩:=Zi4 (r:=Rd w (λb=>b<w.heap.size) e) (q:=Y0 e) ((Vu len).map λi=>(w.cells? 0 (a.add (i*e.size)) e.size).getD []) (by intro c O;have⟨i,Q⟩:=List.getElem?_of_mem O;have⟨_,_,x,h7⟩:=D i c Q;exact Zhg o n e E c x f C.1 h7);have a5:y.length=len:=by rw[J.length];simp
    refine⟨y,⟨Ua a,cap,_,by grind,J,λa7=>?_,by omega⟩,by omega,W⟩;have S:0<len:=by grind
    have⟨c0,x0,h6,_⟩:=F 0 S;have⟨h7,h8⟩:=Zl3 h6;have h9:=h8 0 (by omega);simp[Nat.zero_mul,Addr.add,if_true]at h9;have⟨L,M⟩:=Zti h9;have⟨b,off,spot⟩:=a;simp at L M;subst L;refine⟨b,off,rfl,M,KH.flat (n:=e.size) λi c O=>?_⟩;have⟨Q,a0,_⟩:=D i c O;have⟨a1,a2⟩:=Zl3 a0;refine⟨a1,λj hj=>?_⟩;rw[<-a2 j hj];congr 1;by_cases A:i*e.size=0
    .by_cases p:j=0
     .simp[Addr.add,A,p,if_true,Vs]
     simp[Addr.add,A,p,if_true,if_false,Vs]
    by_cases p:j=0;.simp[Addr.add,A,p,if_true,if_false,Vs]
    simp only[Addr.add,A,p,if_false]
  |unit=>
   cases g:P.underlying T with
   |none=>rw[g]at f;simp[Ka]at f|some d=>
    rw[g]at f;cases d<;>simp[Ka]at f;have⟨xs,n,_,_,l,_⟩:=DataW.trod_struct g h;rw[v K]at l
    exact⟨(),by simpa[Rd,Ty.size] using l,trivial⟩
  |prod a b=>
   cases g:P.underlying T with
   |none=>rw[g]at f;simp[Ka]at f|some d=>
    rw[g]at f;cases d<;>simp only[Ka,Vga]at f;rename_i fs;simp only[Vi,Vma]at f;have⟨⟨a8,a9⟩,a4⟩:=f;have⟨xs,n,A,_,l,N,U⟩:=DataW.trod_struct g h;have R:n=fuel:=by omega
    subst R;rw[v K]at l;have⟨y,J,W⟩:=Zl4 (enc:=enc) (sp:=sp) (held:=held) (fuel:=n) (I:=λb=>b<w.heap.size) o (λt T cs x=>Zhg o n t T cs x) cs xs (.prod a b) fs.toList 0 a4 C (by omega) (by
     grind) (by simp_all) (by
     grind)
    grind
  |arr m e=>
   cases g:P.underlying T with
   |none=>rw[g]at f;simp[Ka]at f|some d=>
    rw[g]at f;cases d<;>simp[Ka]at f;obtain⟨rfl,f⟩:=f;have⟨xs,n,A,_,l,N,U⟩:=DataW.trod_array g h;have R:n=fuel:=by omega
    subst R;rw[v f]at U;rw[v K]at l;have⟨y,J,W⟩:=Zi4 (r:=Rd w (λb=>b<w.heap.size) e) (q:=Y0 e) ((Vu m).map λi=>(cs.drop (i*e.size)).take e.size) (by
     intro c O;obtain⟨i,Q,rfl⟩:=Vja.1 O;have a3:i<m:=by grind
     have:=U i a3;rw[Va (by omega)]at this;exact Zhg o n e _ _ _ f C this)
    refine⟨y,⟨?_,_,Zqk m cs l,J⟩,?_,W⟩;.rw[J.length];simp
    rw[J.length];simp
  |ref|pt _|lk _ _|pn _=>simp[Ty.firm]at C
def Zcm(θ:Z->Option Ty):Pats->V Z->Bool|.nil,[]=>Uc|.cons (.pd t) l,T::a=>θ T==Ua t&&t.firm&&Zcm θ l a|_,_=>Ud
def Zdo:(l:Pats)->KX l->Prop|.nil,_=>True|.cons (.pd t) l,x=>Y0 t x.1/\Zdo l x.2|.cons _ l,x=>Zdo l x.2
theorem ZvR{θ}{T t}(h:Jq P θ T t)(f:t.firm=Uc){v b}(c:Vt P w .any b T v):Kb v=t.agg:=by
 have a:=h.shape;unfold Vt at c
 cases e:P.underlying T with
 |none=>rw[e]at a;cases t<;>simp[Ka]at a|some d=>
  rw[e]at a;cases t<;>cases d<;>simp[Ka,Ty.firm]at a f<;>simp[Cell.okWide,e,Cell.ok]at c
  all_goals first
   |(obtain⟨cs,rfl,_⟩:=c;rfl)|(cases v<;>first|rfl|grind|exact c.elim)
theorem Zpd{θ}(a:∀T t,θ T=Ua t->Jq P θ T t):∀l c vs ds f,Zcm θ l c=Uc->
 DataW.TrodAll enc P w 0 sp held c vs ds f->(∀(j:Nat) t v,c[j]? =Ua t->vs[j]? =Ua v->∃b,Vt P w .any b t v)->∃x,J9 w (λb=>b<w.heap.size) l x [] vs/\Zdo l x
 |.nil,[],vs,ds,f,_,h,_=>by
  cases vs with|nil=>exact⟨(),by simp[J9],trivial⟩|cons v vs=>simp[DataW.TrodAll]at h
 |.nil,T::c,vs,ds,f,e,h,_=>by simp[Zcm]at e|.cons p l,[],vs,ds,f,e,h,_=>by cases p<;>simp[Zcm]at e|.cons p l,T::c,vs,ds,f,e,h,m=>by
  cases p<;>simp[Zcm]at e;rename_i t;have⟨⟨i,k⟩,n⟩:=e
  cases vs with
  |nil=>simp[DataW.TrodAll]at h|cons v vs=>
   cases ds with
   |nil=>simp[DataW.TrodAll]at h|cons d ds=>
    have⟨I,D,⟨fuel,o⟩,q,_⟩:=h;have⟨y,C,s⟩:=Zhg a fuel t T _ _ i k o;have⟨x,A,g⟩:=Zpd a l c vs ds D n q λj t v F z=>m (j+1) t v (by grind) (by grind);have⟨b,r⟩:=m 0 T v (by simp) (by simp);refine⟨(y,x),?_,s,g⟩;refine⟨[],[],v,vs,rfl,rfl,⟨⟨rfl,C⟩,.inr ?_⟩,A⟩;exact ZvR (a _ _ i) k r
end
theorem rv_bool{w I}{x:Bool×Unit}{js v}(h:RV w I (.cons (.pd .bool) .nil) x js v):v=.bool x.1:=by
 obtain⟨vs,a,rfl⟩:=h;obtain⟨f,g,u,r,_,rfl,⟨b,c⟩,_,rfl⟩:=a;have d:Kb u=false:=by obtain h|h:=c<;>simp[Pat.isAgg]at h<;>exact h
 have e:u.cells.toList=[.bool x.1]:=b.2;show u=_;cases u<;>simp_all[Kb,Vm]
end Tr
end
section
namespace Tr
open Go Go.RowKit Go.ChangeShapes
section
variable {H:Type}{enc:Z×Y->H}{P:Program}
theorem ZqA(j:laidOutB P=Uc){W g}(i:Below W.heap.size W g) sp:∀c vs ds b,
 (∀t∈c,P.readableRec t=Uc/\t<P.types.size)->DataW.TrodAll enc P W 0 (λ_=>Uc) Uc c vs ds b->(∀x∈b,x.block<W.heap.size)->(∀p∈b,sp p.block=Uc)->DataW.TrodAll enc P g 0 sp Uc c vs ds b
 |[],[],[],b,_,h,_,_=>h|T::c,v::vs,d::ds,b,f,h,e,k=>by
  obtain⟨p,q,l,m,rfl⟩:=h;exact⟨p,q,WideElems.Trod_stays j (f T (by simp)).1 (f T (by simp)).2 l (λx a=>i.same (e x (by simp[a]))) (λx a=>k x (by simp[a])),
   ZqA j i sp c vs ds q (λt n=>f t (by simp[n])) m (λx a=>e x (by simp[a])) (λx a=>k x (by simp[a])),rfl⟩|[],_::_,_,_,_,h,_,_|[],[],_::_,_,_,h,_,_|_::_,[],_,_,_,h,_,_|_::_,_::_,[],_,_,h,_,_=>by simp[DataW.TrodAll]at h
theorem ZqB{W base sp held}:∀a vs ds c,DataW.TrodAll enc P W base sp held a vs ds c->ds.length=a.length
 |[],[],[],_,_=>rfl|_::a,_::vs,_::ds,_,h=>by
  have⟨_,q,_,b,_⟩:=h
  simp[ZqB a vs ds q b]|[],_::_,_,_,h|[],[],_::_,_,h|_::_,[],_,_,h|_::_,_::_,[],_,h=>by simp[DataW.TrodAll]at h
theorem ZxB{f}{s:ChangeSpec}{apart Ho handsOn again W h args v ds gs before k l}
 (m:DataW.Whole enc P f.params.toList s.vars apart W args.toList ds gs before)
 (e:∀b sp A,DataW.TrodAll enc P h b sp A f.resultTypes.toList (v.resultList f.resultTypes.size) (s.fn H (ds++gs)).results [])
 (a:∀sp,(∀p∈before,sp p.block=Uc)->DataW.TrodAll enc P h 0 sp Uc f.params.toList args.toList (s.fn H (ds++gs)).args k)
 (c:∀sp,(∀p∈before,sp p.block=Uc)->DataW.TrodVars enc P h sp s.vars (s.fn H (ds++gs)).vars l)
 (g:before=k++l) (x:Below W.heap.size W h)
 (q:∀(j:Nat) t r,f.resultTypes[j]? =Ua t->(v.resultList f.resultTypes.size)[j]? =Ua r->Vt P h .any 0 t r):
 s.post enc P f apart Ho handsOn again W args v h:=by
 have d:∀p∈before,(λb=>Ue (b<W.heap.size)) p.block=true:=λp i=>by simpa using m.lt p i
 refine⟨ds,gs,before,[],k,l,m,e _ _ _,a _ d,c _ d,x.frame _,λ_=>?_⟩;have o:=m.lt;have⟨_,_,_,_,_,D,C⟩:=m;refine⟨q,_,_,([]++k)++l,⟨[]++k,l,trodAll_append (a _ λ_ _=>rfl) (e _ _ _),c _ λ_ _=>rfl,rfl,?_,?_⟩,?_⟩
 .intro b off i;have y:MemPlace.cell b off∈before:=by rw[g];simpa using i
  have n:=x.block b (o _ y);have:=D b off y;unfold Vea at this⊢;rw[n];exact this
 .intro z;have:=C z;rw[g]at this;simpa using this
 intro p i _;rw[g];simpa using i
theorem law_lifted{C os f fn}{s:ChangeSpec}{apart S}{θ}{tb}
 (own:ownKnob C.prog.godebug=Ub) (started:os.Started) (c:C.prog.inits.idxOf? f=Ub) (a1:C.prog.funcs[f]? =Ua fn)
 (witness:∃(w:X) (tape:Tape) (i:Input),w.os=os/\(w.forCall tape i).Shaped C.prog/\i.vars=[]/\Input.okWide C.prog (w.forCall tape i) .any w.heap.size f i/\
   s.pre6 enc C.prog fn [] apart (w.forCall tape i).memory i.args/\Assume.holds {} C.prog (lone (Frame.enter C.prog f i.args .normal) [] (w.forCall tape i)))
 (hl:laidOutB C.prog=Uc) (y:(fn.params.toList.all λt=>C.prog.readableRec t&&Ue (t<C.prog.types.size))=Uc)
 (a:s.vars=[]) (F:∀ds,ds.length=fn.params.toList.length->s.fn H ds={results:=[.lit (.bool Uc)],args:=ds})
 (d:fn.resultTypes= #[tb]) (O:C.prog.underlying tb=Ua .bool)
 (hF:ZR C.prog f S) (hθ:∀T t,θ T=Ua t->Jq C.prog θ T t) (l:Zcm θ S.args fn.params.toList=Uc)
 (a5:S.pl=Uc) (K:∀x,Zdo S.args x->∃z,S.f x=Ua z/\∀w I js rv,RV w I S.res (S.unp z).2 js rv->rv=.bool Uc):
 ReturnsInHanded {} C os f .any (s.pre6 enc C.prog fn [] apart) (s.post enc C.prog fn apart Uc Ud Ud):=by
 refine returnsInHanded_of_change own started c a1 witness ?_;intro W base args ds gs before Q hW a8 _;have a0:=hW;have a3:=hW.lt;obtain⟨p,q,R,U,rfl,a9,b0⟩:=hW;have a2:gs=[]/\q=[]:=by
  rw[a]at U
  cases gs with|nil=>exact⟨rfl,U⟩|cons g gs=>simp[DataW.TrodVars]at U
 obtain⟨rfl,rfl⟩:=a2;have⟨x,hx,hg⟩:=Zpd hθ S.args fn.params.toList args.toList ds p l R (λj t v ht hv=>⟨base,Q j t v (by simpa using ht) (by simpa using hv)⟩);have⟨z,hz,a7⟩:=K x hg;have m:=hF.run W (λb=>b<W.heap.size) args.toList [] x z hx .nil (by simp) (λ_ h=>h) (λh=>by rw[a5]at h;cases h) hz;refine m.mono λe W' h=>?_;obtain⟨rv,rfl,I',jo,jr,_,hR,_,_,_,_,a4,J,L,A,o⟩:=h;have N:=a7 _ _ _ _ hR;subst N;have hb:Below W.heap.size W W' :=⟨a4,J,L.out,A,λk hk=>o k hk (by simp)⟩;have D:=F (ds++[]) (by rw[Vna];exact ZqB _ _ _ _ R);have a6:∀t∈fn.params.toList,C.prog.readableRec t=Uc/\t<C.prog.types.size:=by intro t ht;have:=Vma.1 y t ht;simpa using this
 refine⟨_,rfl,ZxB a0 (λb sp hd=>?_) (λsp hs=>?_) (λsp hs=>?_) rfl hb ?_⟩;.rw[D,d];exact trodAll_cons_mk (p:=[]) ⟨1,by simp[DataW.trod,O,Vm]⟩ rfl
 .rw[D];simp[Vna]at hs⊢;exact ZqA hl hb sp _ _ _ _ a6 R (by simpa using a3) hs
 .rw[D,a];rfl
 intro j t r n M;rw[d]at n M
 match j,n,M with
 |0,n,M=>
  simp[Value.resultList]at n M;subst n;subst M
  simp[Vt,O,Cell.okWide,Cell.ok]|j+1,n,_=>simp at n
end
end Tr
end
section
namespace Tr
open Go
section
variable {σ τ:Type}{step:σ->Option (σ ⊕ τ)}
theorem ZbL n s:Js step (n+1) s=(step s).bind λo=>Vta (Js step n) Ua o:=by
 show (match step s with|some (.inl a)=>Js step n a|some (.inr r)=>Ua r|none=>Ub)=_
 cases step s with|none=>rfl|some o=>cases o<;>rfl
theorem Zjt:∀n m s r,Js step n s=Ua r->Js step (n+m) s=Ua r
 |0,_,_,_,h=>by simp[Js]at h|n+1,m,s,r,h=>by
  rw[show n+1+m=(n+m)+1 by omega,ZbL];rw[ZbL]at h
  cases a:step s with
  |none=>rw[a]at h;simp at h|some o=>
   rw[a]at h
   cases o with|inl b=>exact Zjt n m b r h|inr c=>exact h
theorem ZnI{n m s r c}(h:Js step n s=Ua r)(d:Js step m s=Ua c):r=c:=by have a:=Zjt n m s r h;have b:=Zjt m n s c d;rw[Nat.add_comm]at b;exact Kx (a.symm.trans b)
theorem Zyy{n s r}(h:Js step n s=Ua r):run step s=Ua r:=by
 unfold run;split;.rename_i d c;exact congrArg Ua (ZnI c h)
 rw[dif_pos ⟨r,n,h⟩];have a:∃r n,Js step n s=Ua r:=⟨r,n,h⟩;have⟨m,b⟩:=a.choose_spec;exact congrArg Ua (ZnI b h)
theorem ZpZ{s r}:run step s=Ua r↔∃n,Js step n s=Ua r:=⟨Zko,λ⟨_,h⟩=>Zyy h⟩
theorem ZeD s:run step s=(step s).bind λo=>Vta (run step) Ua o:=by
 apply Option.ext;intro r;rw[ZpZ]
 cases a:step s with
 |none=>
  simp only[Option.bind_none,reduceCtorEq,iff_false];rintro ⟨n,h⟩
  cases n with|zero=>simp[Js]at h|succ n=>rw[ZbL,a]at h;simp at h
 |some o=>
  simp[Za]
  cases o with
  |inl c=>
   simp[Sum.elim_inl];rw[ZpZ];constructor
   .rintro ⟨n,h⟩
    cases n with|zero=>simp[Js]at h|succ n=>rw[ZbL,a]at h;exact⟨n,h⟩
   rintro ⟨n,h⟩
   exact⟨n+1,by rw[ZbL,a];exact h⟩
  |inr b=>
   constructor
   .rintro ⟨n,h⟩
    cases n with|zero=>simp[Js]at h|succ n=>rw[ZbL,a]at h;exact h
   intro h;exact⟨1,by rw[ZbL,a];exact h⟩
theorem YX{s s'}(h:step s=Ua (.inl s')):run step s=run step s' :=by rw[ZeD,h];rfl
theorem J3{s r}(h:step s=Ua (.inr r)):run step s=Ua r:=by rw[ZeD,h];rfl
theorem Zkn{Inv:σ->Prop}{μ:σ->Nat}{WY:τ->Prop}(a:∀s,Inv s->(∃s',step s=Ua (.inl s')/\Inv s' /\μ s' <μ s)\/∃r,step s=Ua (.inr r)/\WY r):
 ∀s,Inv s->∃r,run step s=Ua r/\WY r:=by
 intro s;generalize h:μ s=m
 induction m using Nat.strongRecOn generalizing s with
 |ind m i=>
  intro g;obtain⟨s',b,c,d⟩|⟨r,b,c⟩:=a s g;.have⟨r,e,f⟩:=i (μ s') (h▸d) s' rfl c;exact⟨r,(YX b).trans e,f⟩
  exact⟨r,J3 b,c⟩
theorem XV{ρ:Type}{s f}{Q:ρ->Prop}(Inv:σ->Prop)(μ:σ->Nat) WY(e:Inv s)
 (b:∀s,Inv s->∃z,step s=Ua z/\Vta (λs' =>Inv s' /\μ s' <μ s) WY z)
 (a:∀r,WY r->∃z,f r=Ua z/\Q z):∃z,Vca (run step s) f=Ua z/\Q z:=by
 obtain⟨r,c,d⟩:=Zkn (λs g=>by
  have⟨z,c,d⟩:=b s g
  cases z with|inl s' =>exact .inl ⟨s',c,d⟩|inr r=>exact .inr ⟨r,c,d⟩) s e
 rw[c];exact a r d
theorem run_bind{ρ:Type}{s f}{Q:ρ->Prop}(Inv:σ->Prop)(μ:σ->Nat)(WY:τ->Prop)(c:Inv s)
 (b:∀s,Inv s->(∃s',step s=Ua (.inl s')/\Inv s' /\μ s' <μ s)\/∃r,step s=Ua (.inr r)/\WY r)
 (a:∀r,WY r->∃z,f r=Ua z/\Q z):∃z,Vca (run step s) f=Ua z/\Q z:=by
 have⟨r,d,e⟩:=Zkn b s c;rw[d];exact a r e
end
theorem XM{α:Type}{l m:V α}(h:l.length+m.length<=4294967296):Zw (Ue (l.length+m.length<=Zt))=Ua ():=by rw[Zi (Nat.le_trans h (by decide))];rfl
theorem Znm{α:Type}{l m:V α}(h:l.length+m.length<=549755813888):Zw (Ue (l.length+m.length<=Zt))=Ua ():=by rw[Zi (show l.length+m.length<=Zt from h)];rfl
theorem ZB{x}(a: -9223372036854775808<=x)(b:x<=9223372036854775807):Vsa .i64 x=x:=by
 simp[Vsa,IntKind.signed,IntKind.bits];split<;>omega
theorem ZC{α}{xs:V α}{i}(h:i<xs.length):idx xs i=Ua xs[i]:=by unfold idx;simp[h]
theorem Jh{α}{xs:V α}{i}(a:0<=i) h:idx xs i=Ua xs[i.toNat]:=by unfold idx;rw[Zn a];simp[h]
theorem Kz{i}{n:Nat}(h:i<n):Zo i n=Ua i:=by unfold Zo;rw[Zn (by omega)];simp
end Tr
end
section
namespace Tr
open Go Go.RowKit Go.ChangeShapes
section
variable {H:Type}{enc:Z×Y->H}
end
end Tr
end
section
namespace Tr
open Go
noncomputable def ZF.len:ZF->Nat|.nil=>0|.cons _ l=>l.len+1
section
variable {P:Program}{E:Kh}{B:KR}{H:AH}
end
def Ze0(P:Program):V (Nat×Func)->Prop
 |[]=>True
 |p::l=>(P.funcs[p.1]? =some p.2∧p.2.body=some (Wh p.2)∧(p.2.name== "runtime.NumGoroutine")=false)∧Ze0 P l
section
variable {P:Program}{E:Kh}{B:KR}
theorem Ze0.mem:∀{l},Ze0 P l→∀p∈l,P.funcs[p.1]? =some p.2∧p.2.body=some (Wh p.2)∧(p.2.name== "runtime.NumGoroutine")=false
 |[],_,p,a=>by simp at a|q::l,h,p,a=>by
  obtain rfl|a:=Vp.1 a;.exact h.1
  exact Ze0.mem h.2 p a
theorem Z0.put(a:Z0 P E) s i:Z0 P {E with st:=s,inl:=i}:=⟨a.ty,a.mty,a.pk,a.pz,a.bd⟩
def Xf:(t:Ty)->El t->El t->Bool|.int _,x,y|.str,x,y=>Ue (x=y)|.bool,x,y=>x==y|.sl t,x,y|.arr _ t,x,y=>eqDs (Xf t) x y|.unit,_,_|.ref,_,_=>Uc|.prod a b,x,y=>Xf a x.1 y.1&&Xf b x.2 y.2|.pt _,_,_|.lk _ _,_,_|.pn _,_,_=>Ud
where eqDs {α} (f:α->α->Bool):V α->V α->Bool
 |[],[]=>Uc|a::l,b::m=>f a b&&eqDs f l m|_,_=>Ud
theorem ZdS:∀t x y,Xf t x y=Uc->x=y
 |.int _,_,_,h|.str,_,_,h=>Xw h|.bool,x,y,h=>beq_iff_eq.1 h|.sl t,x,y,h=>eqDs_eq (ZdS t) x y h|.unit,_,_,_=>rfl|.prod a b,x,y,h=>by
  simp[Xf]at h
  exact Prod.ext (ZdS a _ _ h.1) (ZdS b _ _ h.2)|.arr _ t,x,y,h=>eqDs_eq (ZdS t) x y h|.ref,_,_,_=>rfl|.pt _,_,_,h|.lk _ _,_,_,h|.pn _,_,_,h=>by simp[Xf]at h
where eqDs_eq {α}{f} (c:∀x y,f x y=Uc->x=y):∀x y,Xf.eqDs f x y=Uc->x=y
 |[],[],_=>rfl|a::l,b::m,h=>by
  simp[Xf.eqDs]at h
  rw[c a b h.1,eqDs_eq c l m h.2]|[],_::_,h|_::_,[],h=>by simp[Xf.eqDs]at h
end
end Tr
end
section
namespace Tr
universe u
variable {α:Type u}
def ZbI(cmp:α->α->Option Int)(x:α):V α->Option (V α)|[]=>Ua [x]|y::l=>(cmp x y).bind λc=>bif Ue (c<0) then Ua (x::y::l) else(ZbI cmp x l).bind λm=>Ua (y::m)
def ZbK(cmp:α->α->Option Int):V α->Option (V α)|[]=>Ua []|x::l=>(ZbK cmp l).bind λm=>ZbI cmp x m
def ltB(cmp:α->α->Option Int)(x y:α):Bool:=match cmp x y,cmp y x with|some a,Ua b=>Ue (a<0)&&Ue (0<b)|_,_=>Ud
def ZgZ(cmp:α->α->Option Int)(x:α):Bool:=match cmp x x with|some a=> !Ue (a<0)|none=>Ud
def Zag(cmp:α->α->Option Int):V α->Bool|[]=>Uc|x::l=>ZgZ cmp x&&l.all (ltB cmp x)&&Zag cmp l
def sortF(cmp:α->α->Option Int)(xs:V α):Option (V α):=
 bif Ue (xs.length<4294967296) then(ZbK cmp xs).bind λa=>bif Zag cmp a then Ua a else Ub else Ub
theorem Zjo{cmp x}:∀{l m:V α},ZbI cmp x l=Ua m->m.Perm (x::l)
 |[],m,h=>by simp[ZbI]at h;subst h;exact .refl _|y::l,m,h=>by
  simp[ZbI,Vc]at h;have⟨c,_,h⟩:=h
  cases a:Ue (c<0) with
  |true=>rw[a]at h;simp[Option.some.injEq]at h;subst h;exact .refl _|false=>
   rw[a]at h;simp[Vc]at h;obtain⟨d,b,rfl⟩:=h;exact((Zjo b).cons y).trans (.swap _ _ _)
theorem Zgi{cmp}:∀{l m:V α},ZbK cmp l=Ua m->m.Perm l|[],m,h=>by simp[ZbK]at h;subst h;exact .refl _|x::l,m,h=>by simp[ZbK,Vc]at h;have⟨c,a,b⟩:=h;exact(Zjo b).trans ((Zgi a).cons x)
theorem Zqd{cmp}{xs d:V α}(h:sortF cmp xs=Ua d):xs.length<4294967296/\d.Perm xs/\Zag cmp d=true:=by
 unfold sortF at h
 cases b:Ue (xs.length<4294967296) with
 |false=>rw[b]at h;simp at h|true=>
  rw[b]at h;simp[Vc]at h;have⟨m,e,a⟩:=h
  cases c:Zag cmp m with|false=>rw[c]at a;simp at a|true=>rw[c]at a;simp[cond_true]at a;subst a;exact⟨of_decide_eq_true b,Zgi e,c⟩
theorem Zn7{cmp}{x y:α}(h:ltB cmp x y=Uc):∃a b,cmp x y=Ua a/\cmp y x=Ua b/\a<0/\0<b:=by
 unfold ltB at h;split at h;.rename_i a b c d;simp[Vi]at h;exact⟨a,b,c,d,h.1,h.2⟩
 simp at h
theorem ZyO{cmp}{x:α}(h:ZgZ cmp x=Uc):∃a,cmp x x=Ua a/\ ¬a<0:=by
 unfold ZgZ at h;split at h;.rename_i a b;exact⟨a,b,by simpa using h⟩
 simp at h
theorem Zkv{cmp}:∀{l:V α},Zag cmp l=Uc->∀i j d (e:j<l.length),∃c,cmp l[i] l[j]=Ua c/\(c<0↔i<j)
 |[],_,i,j,d,_=>by simp at d|x::l,h,i,j,d,e=>by
  simp[Zag,Vi]at h;have⟨⟨m,k⟩,n⟩:=h
  match i,j,d,e with
  |0,0,_,_=>have⟨a,f,g⟩:=ZyO m;exact⟨a,f,by omega⟩|0,j+1,_,e=>have⟨a,b,f,_,g,_⟩:=Zn7 (k _ (Vl (by simpa using e)));exact⟨a,by simpa using f,by omega⟩|i+1,0,d,_=>have⟨a,b,_,o,_,g⟩:=Zn7 (k _ (Vl (by simpa using d)));exact⟨b,by simpa using o,by omega⟩|i+1,j+1,d,e=>
   have⟨c,p,g⟩:=Zkv n i j (by simpa using d) (by simpa using e);exact⟨c,by simpa using p,by omega⟩
theorem Znz{cmp} lt x:∀(l:V α),(∀y∈l,∃c,cmp x y=Ua c/\(c<0↔lt x y))->(∀y∈l,lt x y\/lt y x)->(∀a∈l,∀b∈l,lt x a->lt a b->lt x b)->l.Pairwise lt->
 ∃m,ZbI cmp x l=Ua m/\m.Pairwise lt
 |[],_,_,_,_=>⟨[x],rfl,by simp⟩|y::l,n,d,o,i=>by
  have⟨c,p,j⟩:=n y (by simp);rw[Vd]at i;simp[ZbI,p];by_cases g:c<0
  .rw[decide_eq_true g];refine⟨_,rfl,Vd.2 ⟨λz e=>?_,Vd.2 i⟩⟩;obtain rfl|f:=Vp.1 e
   .exact j.1 g
   exact o y (by simp) z e (j.1 g) (i.1 z f)
  rw[decide_eq_false g];have⟨m,k,q⟩:=Znz lt x l (λz e=>n z (by simp[e])) (λz e=>d z (by simp[e])) (λa r b s=>o a (by simp[r]) b (by simp[s])) i.2;refine⟨y::m,by simp[k],Vd.2 ⟨λz e=>?_,q⟩⟩;obtain rfl|f:=Vp.1 ((Zjo k).mem_iff.1 e);.exact(d y (by simp)).resolve_left λh=>g (j.2 h)
  exact i.1 z f
theorem Zqp{cmp} lt:∀(l:V α),(∀x∈l,∀y∈l,∃c,cmp x y=Ua c/\(c<0↔lt x y)/\(0<c↔lt y x))->(∀x∈l,¬lt x x)->l.Pairwise lt->Zag cmp l=Uc
 |[],_,_,_=>rfl|x::l,h,k,e=>by
  rw[Vd]at e;simp[Zag,Vi];refine⟨⟨?_,λy f=>?_⟩,Zqp lt l (λa j b o=>h a (by simp[j]) b (by simp[o])) (λa j=>k a (by simp[j])) e.2⟩;.have⟨c,g,i,_⟩:=h x (by simp) x (by simp);unfold ZgZ;rw[g];show (!Ue (c<0))=Uc;rw[decide_eq_false λp=>k x (by simp) (i.1 p)];rfl
  have⟨c,g,i,_⟩:=h x (by simp) y (by simp[f]);have⟨d,m,_,n⟩:=h y (by simp[f]) x (by simp);unfold ltB;rw[g,m];simp[Vi];exact⟨i.2 (e.1 y f),n.2 (e.1 y f)⟩
theorem Zqe{cmp} lt(xs:V α)(A:xs.length<4294967296)(h:∀x∈xs,∀y∈xs,∃c,cmp x y=Ua c/\(c<0↔lt x y)/\(0<c↔lt y x))(j:∀x∈xs,¬lt x x)
 (D:∀a∈xs,∀b∈xs,∀c∈xs,lt a b->lt b c->lt a c) (o:xs.Pairwise λa b=>lt a b\/lt b a):∃q,sortF cmp xs=Ua q/\q.Perm xs/\q.Pairwise lt:=by
 have key:∀l,(∀x∈l,x∈xs)->(l.Pairwise λa b=>lt a b\/lt b a)->∃m,ZbK cmp l=Ua m/\m.Pairwise lt:=by
  intro l
  induction l with
  |nil=>exact λ_ _=>⟨[],rfl,.nil⟩|cons x l F=>
   intro p e;rw[Vd]at e;have⟨m,i,n⟩:=F (λy d=>p y (by simp[d])) e.2;have k:∀y∈m,y∈l:=λy d=>(Zgi i).mem_iff.1 d;have g:=p x (by simp);have f:∀y∈m,y∈xs:=λy d=>p y (by simp[k y d]);have⟨I,s,t⟩:=Znz lt x m (λy d=>(h x g y (f y d)).imp λc r=>⟨r.1,r.2.1⟩) (λy d=>e.1 y (k y d)) (λa v b z=>D x g a (f a v) b (f b z)) n;exact⟨I,by simp[ZbK,i,s],t⟩
 have⟨m,i,n⟩:=key xs (λ_ h=>h) o;have e:=Zgi i;have C:=Zqp lt m (λx g y d=>h x (e.mem_iff.1 g) y (e.mem_iff.1 d)) (λx g=>j x (e.mem_iff.1 g)) n;exact⟨m,by unfold sortF;rw[decide_eq_true A];simp[i,C],e,n⟩
theorem sortF_sorted{cmp} lt(xs:V α)(o:xs.length<4294967296)(h:∀x∈xs,∀y∈xs,∃c,cmp x y=Ua c/\(c<0↔lt x y)/\(0<c↔lt y x))(d:∀x∈xs,¬lt x x)
 (i:∀a∈xs,∀b∈xs,∀c∈xs,lt a b->lt b c->lt a c) (g:xs.Pairwise lt):sortF cmp xs=Ua xs:=by
 have⟨p,j,e,k⟩:=Zqe lt xs o h d i (g.imp λh=>.inl h);rw[j];congr 1;refine List.Perm.eq_of_pairwise (λa b f n l m=>?_) k g e;exact absurd (i a (e.mem_iff.1 f) b n a (e.mem_iff.1 f) l m) (d a (e.mem_iff.1 f))
def Ze3(cmp:α->α->Option Int)(z:V α):Prop:= ∃d:α->Nat,(∀a∈z,∀b∈z,∃c,cmp a b=Ua c/\(c<0↔d a<d b))/\(∀a∈z,∀b∈z,d a=d b->a=b)/\z.Pairwise λa b=>d a<=d b
theorem Zqq{cmp}{z:V α}(h:Zag cmp z=Uc):Ze3 cmp z:=by
 have s:∃n:α->Nat,∀a,a∈z->z[n a]? =Ua a:=by
  refine Classical.axiomOfChoice (r:=λa i=>a∈z->z[i]? =Ua a) λa=>?_;by_cases g:a∈z;.have⟨i,k,l⟩:=List.getElem_of_mem g;exact⟨i,λ_=>by rw[Va k,l]⟩
  exact⟨0,λh=>absurd h g⟩
 have⟨n,d⟩:=s;have m:∀a∈z,∀b∈z,∃c,cmp a b=Ua c/\(c<0↔n a<n b):=λa g b p=>by have⟨k,f⟩:=Vq.1 (d a g);have⟨o,l⟩:=Vq.1 (d b p);have:=Zkv h _ _ k o;rwa [f,l]at this
 refine⟨n,m,λa g b p e=>?_,?_⟩;.have f:=d a g;rw[e,d b p]at f;exact(Option.some.inj f).symm
 rw[Vj];intro i j k o q;have⟨c,f,l⟩:=Zkv h i j k o;have⟨x,t,v⟩:=m _ (Vl k) _ (Vl o);rw[f]at t;cases t;exact Nat.le_of_lt (v.1 (l.2 q))
open Classical in
noncomputable def sortX(cmp:α->α->Option Int)(xs:V α):Option (V α):=match sortF cmp xs with|some z=>Ua z|none=>if h:xs.length<4294967296/\∃z:V α,z.Perm xs/\Ze3 cmp z then Ua (choose h.2) else Ub
theorem Zy5{cmp}{xs z:V α}(h:sortX cmp xs=Ua z):xs.length<4294967296/\z.Perm xs/\Ze3 cmp z:=by
 unfold sortX at h;split at h;.rename_i y e;cases h;have⟨b,c,d⟩:=Zqd e;exact⟨b,c,Zqq d⟩
 split at h;.rename_i a;cases h;exact⟨a.1,(Classical.choose_spec a.2).1,(Classical.choose_spec a.2).2⟩
 cases h
end Tr
end
section
namespace Tr
open Go Go.Proofs Go.Shelf
abbrev Zt6(T:Ty):Pats:=.cons (.pd T) (.cons (.pd T) .nil)
abbrev Zt7:Pats:=.cons (.pd (.int .i64)) .nil
def ZfG T(cmp:El T->El T->Option Int):Spec:={args:=Zt6 T,res:=Zt7,fns:=[],α:=Int,f:=λx=>cmp x.1 x.2.1,unp:=λz=>(((),(),()),(z,()))}
def ZeF T(g:FuncId)(f:V (El T)->Option (V (El T))):Spec:={args:=.cons (.own T Uc) (.cons (.fn g .nil) .nil),res:=.nil,fns:=[g],α:=V (El T),f:=λx=>f x.1,unp:=λz=>((z,(),()),())}
def Zy3 T(g:FuncId)(cmp:El T->El T->Option Int):Spec:=ZeF T g (sortF cmp)
noncomputable def Zy4 T(g:FuncId)(cmp:El T->El T->Option Int):Spec:=ZeF T g (sortX cmp)
theorem ZAa{w w'}(e:w'.os=w.os)(c:w'.tape=w.tape)(f:Y2 w' w)(g:w.heap.size<=w'.heap.size)(a:∀b,b<w.heap.size->w'.heap[b]? =w.heap[b]?):
 w' =Sort.grow (w.drewN (w'.drawn - w.drawn)) (w'.heap.extract w.heap.size w'.heap.size):=by
 have⟨j,m⟩:=f;have⟨h,t,d,o,p⟩:=w;have⟨l,v,q,r,s⟩:=w';simp at e c g a j m;subst e c j;unfold Sort.grow World.drewN;simp[and_true];refine⟨?_,by omega⟩;apply Array.ext_getElem?;intro k;rw[Array.getElem?_append];split;.rename_i i;exact a k i
 rename_i i;rw[Array.getElem?_extract];by_cases n:k<l.size;.rw[Zn (by omega),show h.size+(k - h.size)=k by omega]
 rw[Zg (by omega)];simp;omega
theorem Znd{α}[Inhabited α]{enc k}(f:∀x,(enc x).length=k)(d:Array α):(Sort.flatK enc k d).toList=(d.toList.map enc).flatten:=by
 apply Vx;intro t;have l:∀c∈d.toList.map enc,c.length=k:=by intro c g;obtain⟨x,_,rfl⟩:=Vja.1 g;exact f x
 have i:=Hm l;simp only[List.length_map,Vfa]at i;by_cases a:t<d.size*k
 .have b:0<k:=Nat.pos_of_ne_zero λh=>by subst h;simp at a
  have m:t / k<d.size:=by rw[Nat.div_lt_iff_lt_mul b];exact a
  have j:t % k<k:=Nat.mod_lt _ b;have g:(d.toList.map enc)[t / k]? =Ua (enc d[t / k]!):=by rw[Vy,Vb,Vf m,getElem!_pos d _ m];rfl
  have⟨n,o,_⟩:=ZaP g k l;have e:t=((d.toList.map enc).take (t / k)).flatten.length+t % k:=by have:=Nat.div_add_mod t k;rw[Nat.mul_comm]at this;omega
  rw[Vb,Vf (by simpa using a),<-getElem!_pos (Sort.flatK enc k d) t (by simpa using a),Sort.get_flatK _ _ _ _ a,n,List.append_assoc];rw[List.getElem?_append_right (by omega),show t - ((d.toList.map enc).take (t / k)).flatten.length=t % k by omega,Vr (by rw[f];exact j)];rw[Va (by rw[f];exact j),getElem!_pos _ _ (by rw[f];exact j)]
 rw[Vn (by simpa using a),Vn (by omega)]
theorem Zm4{w I T}{α:Type}{f e}(h:∀p,Rd w I T (f p) (e p)):∀l:V α,Fa (Rd w I T) (l.map f) (l.map e)|[]=>trivial|p::l=>⟨h p,Zm4 h l⟩
theorem Zrc{w I T}:∀{xs}{css},Fa (Rd w I T) xs css->∀p∈xs.zip css,Rd w I T p.1 p.2
 |[],[],_,p,h=>by simp at h|x::xs,c::css,⟨a,b⟩,p,h=>by
  obtain rfl|h:=Vp.1 h;.exact a
  exact Zrc b p h
section
variable {P:Program}{ρ:Ren}
theorem Zqf(L:SlLaysF0.n6 P ρ) p cap a w:Calls P (ρ.f 6) #[.slice p 0 cap,a] w λe w' =>e=.returned (.tuple #[])/\w' =w:=AnyF.slices_SortFunc_none L p cap a w
theorem Zt8{T g cmp}(m:T.agg=Uc)(C:ZR P g (ZfG T cmp)){w I}(p:∀b,I b->b<w.heap.size){x y cx f}(D:Rd w I T x cx)(F:Rd w I T y f){z}(J:cmp x y=Ua z):
 Calls P g #[.agg cx.toArray,.agg f.toArray] w λe w' =>e=.returned (.int .i64 z)/\∃q l,w' =Sort.grow (w.drewN q) l:=by
 refine(C.run w I [.agg cx.toArray,.agg f.toArray] [] (x,y,()) z ⟨[],[],_,_,rfl,rfl,⟨⟨rfl,by simpa[Vm] using D⟩,.inr (by rw[show (Pat.pd T).isAgg=T.agg from rfl,m];rfl)⟩,[],[],_,_,rfl,rfl,⟨⟨rfl,by simpa[Vm] using F⟩,.inr (by rw[show (Pat.pd T).isAgg=T.agg from rfl,m];rfl)⟩,rfl,rfl⟩ .nil (by simp) p (λh=>by cases h) J).mono ?_;rintro e w' ⟨Q,rfl,K,N,O,_,⟨vs,j,rfl⟩,_,_,_,_,i,d,a,k,c⟩;obtain⟨L,M,v,r,_,rfl,⟨A,s⟩,_,rfl⟩:=j;refine⟨?_,_,_,ZAa i d ⟨a.out,a.drawn rfl⟩ k λb t=>c b t (by simp)⟩;have n:v.cells.toList=[.int .i64 z]:=A.2;have o:Kb v=false:=s.resolve_left λh=>by cases h
 rw[K3 n o];rfl
theorem Zqc{T g cmp f}(hf:∀xs z,f xs=Ua z->xs.length<4294967296/\z.Perm xs/\Ze3 cmp z)(L:SlLaysF0.n6 P ρ)(hT:T.agg=Uc)(aE:∀w,(isAgg (ρ.t 24)).run P w=.ok Uc w)(zE:∀w,(Go.sizeOf (ρ.t 24)).run P w=.ok T.size w)(hg:ZR P g (ZfG T cmp))(f4:Nat.blt g WO=true:=by rfl):
 ZR P (ρ.f 6) (ZeF T g f) where
 wf:=rfl
 fn:=by have⟨nm,h1,K⟩:=L.f6;exact⟨_,K,rfl,h1⟩
 run:=by
  intro w I h9 js x (z:V (El T)) g2 f8 J hI _ hz;obtain⟨j1,j2,v,r,rfl,rfl,⟨g1,e6⟩,j3,j4,v2,r2,rfl,rfl,⟨d7,O⟩,rfl,rfl⟩:=g2;obtain⟨cc,d1,rfl,rfl⟩:=d7;have d3:Xi g []=.func (.func g) #[] #[]:=by unfold Xi;rw[f4];rfl
  rw[d3]at d1;have g5:v2=.func (.func g) #[] #[]:=K3 d1 (O.resolve_left λh=>by cases h);subst g5;have a4:Kb v=false:=e6.resolve_left λh=>by cases h
  have⟨h8,o,rk,a2,d4,e3⟩:=hf x.1 z hz;have back:∀{w'}{rv},rv=.tuple #[]->PC w' I (.own T Uc) z j1 v.cells.toList->(∀b,I b->b<w'.heap.size)->w'.os=w.os->w'.tape=w.tape->Y2 w' w->w.heap.size<=w'.heap.size->(∀b,b<w.heap.size->b ∉ j1->w'.heap[b]? =w.heap[b]?)->
   Rv (ZeF T g f) w I (j1++[]) [v,.func (.func g) #[] #[]] ((ZeF T g f).unp z) rv w' :=by
   intro w' rv g3 d6 e5 h1 K h3 h4 h5;refine⟨I,j1++[],[],⟨j1,[],_,_,rfl,rfl,d6,[],[],_,_,rfl,rfl,⟨[],by simp[Vm,d3],rfl⟩,rfl⟩,⟨[],⟨rfl,rfl⟩,g3⟩,by simpa using f8,λb W=>?_,λ_ h=>h,λb W=>⟨e5 b W,.inl W⟩,h1,K,⟨h3.out,λ_=>h3.drawn⟩,h4,λb W hj=>h5 b W (by simpa using hj)⟩;have l:b∈j1++[]:=by simpa using W
   exact⟨(J b (by simpa using l)).1,by have:=(J b (by simpa using l)).2;omega,.inl (by simpa using l)⟩
  obtain⟨rfl,hx,hc⟩|⟨b,cap,cells,e,k,rfl,hc,hh,a6,c6,b4,rest,c5⟩:=g1
  .have hv:v=.slice Ub 0 0:=K3 hc a4;have U:z=[]:=by rw[hx]at o;exact Vra.1 o
   subst hv;refine(Zqf L Ub 0 _ w).mono ?_;rintro e w' ⟨rfl,rfl⟩;exact⟨_,rfl,back rfl (.inl ⟨rfl,U,rfl⟩) hI rfl rfl .rfl (Vk _) λ_ _ _=>rfl⟩
  have hv:v=.slice (Ua ⟨b,0,Ub⟩) x.1.length cap:=K3 hc a4;subst hv;by_cases b9:x.1=[]
  .have U:z=[]:=by rw[b9]at o;exact Vra.1 o
   have h0:x.1.length=0:=by rw[b9];rfl
   rw[h0];refine(Zqf L _ cap _ w).mono ?_;rintro e' w' ⟨rfl,rfl⟩;refine⟨_,rfl,?_⟩;have:=back (w' :=w') (rv:=.tuple #[]) rfl (.inr ⟨b,cap,cells,e,[],rfl,by rw[U];simp[Vm,h0],hh,by rw[U];exact Vba _,c6,by rw[U];trivial,List.nil_prefix⟩) hI rfl rfl .rfl (Vk _) λ_ _ _=>rfl;rw[h0]at this;exact this
  have W:=J b (by simp);have b7:x.1.length=k.length:=b4.length;have C:(x.1.zip k).map Prod.fst=x.1:=List.map_fst_zip (by omega);have c8:(x.1.zip k).map Prod.snd=k:=List.map_snd_zip (by omega);have S:=Zrc b4;have a9:∀p∈x.1.zip k,p.1∈z:=λp hp=>o.mem_iff.2 (by rw[<-C];exact Vja.2 ⟨p,hp,rfl⟩)
  let α:={p:El T×V Y // p∈x.1.zip k}
  have d5:x.1.zip k≠ []:=by intro h0;rw[h0]at C;exact b9 C.symm
  have⟨p0,f9⟩:=List.exists_mem_of_ne_nil _ d5
  letI:Inhabited α:=⟨⟨p0,f9⟩⟩
  let enc:α->V Y:=λp=>p.1.2
  let cf:α->α->Int:=λp q=>(cmp p.1.1 q.1.1).getD 0
  let ix:α->Nat:=λp=>rk p.1.1
  have c9:∀p q,∃c,cmp p.1.1 q.1.1=Ua c/\(c<0↔ix p<ix q):=λp q=>a2 _ (a9 p.1 p.2) _ (a9 q.1 q.2);have b8:∀p q,ltOf cf p q=Ue (ix p<ix q):=λp q=>by
   have⟨c,h1,K⟩:=c9 p q;show Ue ((cmp p.1.1 q.1.1).getD 0<0)=_;rw[h1];show Ue (c<0)=_;by_cases h:c<0;.rw[Zi h,Zi (K.1 h)]
   rw[Zm h,Zm λh3=>h (K.2 h3)]
  have hO:Go.Sort.SWO (ltOf cf):=by
   refine⟨λp=>?_,λp q r h1 K=>?_,λp q r h1 K=>?_⟩;.rw[b8];simp
   .rw[b8]at*;simp at*;omega
   rw[b8]at*;simp at*;omega
  have hk:∀p,(enc p).length=T.size:=λp=>Rd.length T _ _ (S p.1 p.2);have h1:∀p,∀v∈enc p,v.oneCell' =true:=λp=>Rd.oneCell T _ _ (S p.1 p.2)
  let d:Array α:=((x.1.zip k).attach).toArray
  have b3:d.toList=(x.1.zip k).attach:=by simp[d]
  have N:d.size=x.1.length:=by
   have:d.toList.length=x.1.length:=by rw[b3,List.length_attach,List.length_zip];omega
   simpa using this
  have f3:d.toList.map enc=k:=by
   rw[b3];have:(x.1.zip k).attach.map enc=((x.1.zip k).attach.map Subtype.val).map Prod.snd:=by rw[Via];rfl
   rw[this,Vv,c8]
  have e7:cells.toList=k.flatten++rest:=c5.symm;have R:(Go.Sort.flatK enc T.size d).toList=k.flatten:=by rw[Znd hk,f3]
  have g9:k.flatten.length=x.1.length*T.size:=by rw[Hm (Rd.all_length b4),b7]
  have a5:b<w.heap.size:=W.2;have hH:Go.Sort.HoldsK enc T.size w b 0 d:=by
   intro j hj;rw[Go.Sort.size_flatK,N]at hj;have b6:j<k.flatten.length:=by omega
   constructor
   .have K:(Go.Sort.flatK enc T.size d)[j]! =k.flatten[j]:=by
     rw[getElem!_pos _ j (by rw[Go.Sort.size_flatK,N];exact hj)];have h3:(Go.Sort.flatK enc T.size d).toList[j]'(by rw[R];exact b6)=k.flatten[j]:=by simp[R]
     simpa using h3
    rw[K];have h4:cells[j]? =Ua k.flatten[j]:=by rw[<-Vb,e7,Vr b6,Va b6]
    simp[Vla,hh,Nat.zero_add,Option.isSome_none,Vga,if_false,h4,id]
   simp[Vea,hh]
  have d2:CmpLays P g #[] enc T.size cf b 0 d.size w:=by
   intro m os dk i0 p q;have⟨c,d0,_⟩:=c9 p q;have c4:∀A,I A->(sortWorldK enc T.size w b 0 m dk os).heap[A]? =w.heap[A]? :=by intro A l;have F:A≠b:=λh=>W.1 (h▸l);have D:=hI A l;unfold sortWorldK Go.Sort.putRowK Go.Sort.putRow Go.Sort.mapBlock Go.Sort.grow;simp only;rw[Ve (by simp;exact D),Vg,Zg (Ne.symm F)];rfl
   have a3:Kt I w (sortWorldK enc T.size w b 0 m dk os):=λA l=>c4 A l;have b0:w.heap.size<=(sortWorldK enc T.size w b 0 m dk os).heap.size:=size_sortWorldK_c enc T.size w b 0 m dk os;have:=Zt8 hT hg (I:=I) (λA l=>by have:=hI A l;omega) (Rd.mono a3 (λ_ h=>h) _ _ _ (S p.1 p.2)) (Rd.mono a3 (λ_ h=>h) _ _ _ (S q.1 q.2)) d0;have e9:cf p q=c:=by show (cmp p.1.1 q.1.1).getD 0=c;rw[d0];rfl
   rw[e9];exact this
  have a7:=AnyQ.slices_SortFunc L T.size aE zE enc hk h1 cf hO g #[] b 0 cap d w (Zkk hg · ·) d2 hH a5 (by rw[N];omega);rw[N]at a7;refine a7.mono ?_;rintro ex w' ⟨rfl,s,n,os,hp,hs,rfl⟩;have a8:s.size=x.1.length:=hp.1.trans N;have a1:s.toList.Perm d.toList:=by
   have K:=hp.2.2;rw[<-N]at K;have e1:d.extract 0 d.size=d:=by simp
   have e2:s.extract 0 d.size=s:=by rw[<-hp.1];simp
   rw[e1,e2]at K;exact K
  have d9:(s.toList.map λp=>p.1.1).Perm z:=by
   refine(a1.map _).trans ?_;rw[b3];have:(x.1.zip k).attach.map (λp=>p.1.1)=((x.1.zip k).attach.map Subtype.val).map Prod.fst:=by rw[Via];rfl
   rw[this,Vv,C];exact o.symm
  have g6:(s.toList.map λp=>p.1.1)=z:=by
   refine List.Perm.eq_of_pairwise (le:=λa c=>¬((cmp c a).getD 0<0)) (λa c ha hc h3 h4=>?_) ?_ ?_ d9;.have b1:=d9.mem_iff.1 ha;have⟨c1,e1,f1⟩:=a2 a b1 c hc;have⟨c2,e2,f2⟩:=a2 c hc a b1;rw[e2]at h3;rw[e1]at h4;refine d4 a b1 c hc ?_;simp[Option.getD_some]at h3 h4;omega
   .rw[List.pairwise_map,Vj];intro i j hi hj b5;have h5:j<s.size:=by simpa using hj
    have:=hs i j (Vba _) b5 (by omega);have f5:i<s.size:=by simpa using hi
    have f7:j<s.size:=by simpa using hj
    rw[getElem!_pos s j f7,getElem!_pos s i f5]at this;have h6:¬cf s[j] s[i]<0:=of_decide_eq_false this;simpa using h6
   rw[Vj];intro i j hi hj b5;have⟨c2,e2,f2⟩:=a2 _ (Vl hj) _ (Vl hi);have h7:=Vj.1 e3 i j hi hj b5;rw[e2];show¬c2<0;omega
  have Q:=Zm4 (w:=w) (I:=I) (T:=T) (f:=λp=>p.1.1) (e:=enc) (λp=>S p.1 p.2) s.toList;rw[g6]at Q;have O:Kt I w (sortWorldK enc T.size w b 0 n s os):=by intro A l;have F:A≠b:=λh=>W.1 (h▸l);have D:=hI A l;unfold sortWorldK Go.Sort.putRowK Go.Sort.putRow Go.Sort.mapBlock Go.Sort.grow;simp only;rw[Ve (by simp;exact D),Vg,Zg (Ne.symm F)];rfl
  have b0:w.heap.size<=(sortWorldK enc T.size w b 0 n s os).heap.size:=size_sortWorldK_c enc T.size w b 0 n s os;have a0:∀A,A<w.heap.size->A ∉ [b]->(sortWorldK enc T.size w b 0 n s os).heap[A]? =w.heap[A]? :=by
   intro A D l;have F:A≠b:=by simpa using l
   unfold sortWorldK Go.Sort.putRowK Go.Sort.putRow Go.Sort.mapBlock Go.Sort.grow;simp only;rw[Ve (by simp;exact D),Vg,Zg (Ne.symm F)];rfl
  have b2:(sortWorldK enc T.size w b 0 n s os).heap[b]? =Ua (.cells (Go.Sort.putCells id 0 (Go.Sort.flatK enc T.size s) cells) e (0,0)):=by unfold sortWorldK Go.Sort.putRowK Go.Sort.putRow Go.Sort.mapBlock Go.Sort.grow;simp only;rw[Ve (by simp;exact a5),Vg,Zn rfl];show (w.heap[b]?).map _=_;rw[hh];rfl
  have e4:z.length=x.1.length:=o.length_eq;have M:(Go.Sort.flatK enc T.size s).toList=(s.toList.map enc).flatten:=Znd hk s;have g8:(s.toList.map enc).flatten.length=x.1.length*T.size:=by rw[<-M,Vfa,Go.Sort.size_flatK,a8]
  have d8:(s.toList.map enc).flatten<+:(Go.Sort.putCells id 0 (Go.Sort.flatK enc T.size s) cells).toList:=by
   have g7:x.1.length*T.size<=cells.size:=Nat.le_trans (Nat.mul_le_mul_right _ a6) c6;rw[Vz];apply Vx;intro t;rw[Vw];by_cases ht:t<x.1.length*T.size
   .rw[Zn (by omega)];have g4:t<cells.size:=by omega
    have c7:t<(Go.Sort.flatK enc T.size s).size:=by rw[Go.Sort.size_flatK,a8];exact ht
    have hR:(Go.Sort.putCells id 0 (Go.Sort.flatK enc T.size s) cells)[t]? =Ua (Go.Sort.flatK enc T.size s)[t]! :=by unfold Go.Sort.putCells;rw[Vda,Vf g4];simp only[Option.map_some,Vba,Nat.zero_add,true_and,c7,if_true,Nat.sub_zero,id]
    rw[<-Vb]at hR;rw[hR,getElem!_pos _ t c7,<-M];rw[Vb,Vf c7]
   rw[Zg (by omega),Vn (by omega)]
  refine⟨_,rfl,back rfl (.inr ⟨b,cap,_,e,s.toList.map enc,rfl,by rw[e4];simp[Vm],b2,by rw[e4];exact a6,by unfold Go.Sort.putCells;simpa using c6,Q.mono λy c hy=>Rd.mono O (λ_ h=>h) T y c hy,d8⟩) (λA l=>by have:=hI A l;omega) rfl rfl ⟨rfl,?_⟩ b0 a0⟩;show w.drawn<=w.drawn+n;omega
theorem sortFunc_ok{T g cmp}(L:SlLaysF0.n6 P ρ)(i:T.agg=Uc)(b:∀w,(isAgg (ρ.t 24)).run P w=.ok Uc w)(k:∀w,(Go.sizeOf (ρ.t 24)).run P w=.ok T.size w)(j:ZR P g (ZfG T cmp))(a:Nat.blt g WO=true:=by rfl):
 ZR P (ρ.f 6) (Zy3 T g cmp):=Zqc (λ_ _ h=>by have⟨c,d,e⟩:=Zqd h;exact⟨c,d,Zqq e⟩) L i b k j a
theorem sortFuncX_ok{T g cmp}(L:SlLaysF0.n6 P ρ)(c:T.agg=Uc)(b:∀w,(isAgg (ρ.t 24)).run P w=.ok Uc w)(e:∀w,(Go.sizeOf (ρ.t 24)).run P w=.ok T.size w)(d:ZR P g (ZfG T cmp))(a:Nat.blt g WO=true:=by rfl):
 ZR P (ρ.f 6) (Zy4 T g cmp):=Zqc (λ_ _ h=>Zy5 h) L c b e d a
end
def ZbJ(x:Int):V Int->V Int|[]=>[x]|y::l=>bif Ue (x<=y) then x::y::l else y::ZbJ x l
def YS:V Int->V Int|[]=>[]|x::l=>ZbJ x (YS l)
def sortI(l:V Int):Option (V Int):=bif Ue (l.length<4294967296) then Ua (YS l) else Ub
def Hk(x:Int):V Int->V Int|[]=>[]|y::l=>bif Ue (y=x) then Hk x l else y::Hk y l
def Jx:V Int->V Int|[]=>[]|x::l=>x::Hk x l
def compactI(l:V Int):Option (V Int):=bif Ue (l.length<4294967296) then Ua (Jx l) else Ub
theorem Zjp x:∀l,(ZbJ x l).Perm (x::l)
 |[]=>.refl _|y::l=>by
  simp[ZbJ]
  cases Ue (x<=y) with|true=>exact .refl _|false=>exact((Zjp x l).cons y).trans (.swap _ _ _)
theorem ZcM:∀l,(YS l).Perm l|[]=>.refl _|x::l=>(Zjp x _).trans ((ZcM l).cons x)
theorem ZnA x:∀{l},l.Pairwise (· <= ·)->(ZbJ x l).Pairwise (· <= ·)
 |[],_=>by simp[ZbJ]|y::l,h=>by
  simp[ZbJ];have⟨c,d⟩:=Vd.1 h;by_cases a:x<=y
  .rw[Zi a];refine Vd.2 ⟨λz b=>?_,h⟩;obtain rfl|b:=Vp.1 b
   .exact a
   exact Int.le_trans a (c z b)
  rw[Zm a];refine Vd.2 ⟨λz b=>?_,ZnA x d⟩;obtain rfl|b:=Vp.1 ((Zjp x l).mem_iff.1 b);.omega
  exact c z b
theorem ZnG:∀l,(YS l).Pairwise (· <= ·)|[]=>.nil|x::l=>ZnA x (ZnG l)
theorem ZvU l:(l.mergeSort λx y=>Ue (x<=y))=YS l:=by refine List.Perm.eq_of_pairwise (λa b _ _ d e=>Int.le_antisymm d e) ?_ (ZnG l) ((List.mergeSort_perm l _).trans (ZcM l).symm);have:=List.pairwise_mergeSort (le:=λx y=>Ue (x<=y)) (λa b c d e=>by simp at*;omega) (λa b=>by simp;omega) l;exact this.imp λh=>by simpa using h
theorem ZiF y:∀l x,Hk x (l++[y])=Hk x l++if y=(l.getLast?).getD x then [] else [y]
 |[],x=>by
  simp[Hk];by_cases h:y=x;.simp[h]
  simp[h]|z::l,x=>by
  simp[Hk];have e:∀a,((z::l).getLast?).getD a=(l.getLast?).getD z:=λa=>by rw[Vha];rfl
  by_cases h:z=x;.rw[Zi h];simp[Zf];rw[ZiF y l x,e,h]
  rw[Zm h];rw[ZiF y l z,e];simp
theorem Zua y l:Jx (l++[y])=Jx l++if l.getLast? =Ua y then [] else [y]:=by
 cases l with
 |nil=>simp[Jx,Hk]|cons x l=>
  simp[Jx,ZiF];rw[Vha];by_cases h:y=(l.getLast?).getD x;.rw[Zn h,Zn (by rw[h])]
  rw[Zg h,Zg λa=>h (by simpa using a.symm)]
theorem Zub l:Go.Lib.compact l=Jx l:=by
 have:∀m,m<=l.length->Go.Lib.compactUpTo l.toArray m=Jx (l.take m):=by
  intro m
  induction m with
  |zero=>intro _;rfl|succ m i=>
   intro g;have a:m<l.length:=g;have b:l.toArray[m]! =l[m]:=by simp[a]
   have d:l.take (m+1)=l.take m++[l[m]]:=by rw[List.take_add_one,Va a];rfl
   rw[d,Zua,<-i (by omega)];unfold Go.Lib.compactUpTo;rw[List.range_succ,List.filter_append,Voa];congr 1
   cases m with
   |zero=>simp[Go.Lib.keeps,a]|succ m=>
    have c:l.toArray[m]! =l[m]:=by simp[show m<l.length by omega]
    have e:(l.take (m+1)).getLast?=Ua l[m]:=by rw[List.getLast?_eq_getElem?,List.length_take,Nat.min_eq_left (by omega),Vw,Zn (by omega),Nat.add_sub_cancel,Va (by omega)]
    rw[e];by_cases h:l[m+1]=l[m];.rw[Zn (by rw[h]),List.filter_cons_of_neg (by simp[Go.Lib.keeps,b,c];simp[h])];rfl
    rw[Zg (λf=>h (by simpa using f.symm)),List.filter_cons_of_pos (by simp[Go.Lib.keeps,b,c];simp[h])];simp[a]
 have h:=this l.length (Vk _);rw[List.take_length]at h;exact h
theorem ZiD:∀l x,(Hk x l).length<=l.length
 |[],_=>Vk _|y::l,x=>by
  simp[Hk]
  cases Ue (y=x) with|true=>have:=ZiD l x;simp[List.length_cons];omega|false=>have:=ZiD l y;simp[Ze];omega
theorem Zmt l:(Jx l).length<=l.length:=by
 cases l with|nil=>exact Vk _|cons x l=>simp[Jx];have:=ZiD l x;omega
abbrev ITy:Ty:=.int .i64
def Zkp:Spec:={args:=.cons (.own ITy Uc) .nil,res:=.nil,fns:=[],α:=V Int,f:=λx=>sortI x.1,unp:=λz=>((z,()),())}
def ZiG:Spec:={args:=.cons (.own ITy Ud) .nil,res:=.cons (.own ITy Ud) .nil,fns:=[],α:=V Int,f:=λx=>compactI x.1,unp:=λz=>(((),()),(z,()))}
theorem Zi3{w I}:∀{xs:V Int}{css},Fa (Rd w I ITy) xs css->css=xs.map λx=>[.int .i64 x]|[],[],_=>rfl|x::xs,c::css,⟨b,a⟩=>by rw[Zi3 a,Vqa];congr 1
theorem Zjq{w I}:∀xs:V Int,Fa (Rd w I ITy) xs (xs.map λx=>[Vh .i64 x])|[]=>trivial|_::xs=>⟨rfl,Zjq xs⟩
theorem Zf2(xs:V Int):(xs.map λx=>[Vh .i64 x]).flatten=xs.map (Vh .i64):=by
 induction xs with|nil=>rfl|cons x xs a=>simp[a]
theorem Znq{w b cells e}{xs:V Int}(c:w.heap[b]? =Ua (.cells cells e (0,0)))(g:xs.map (Vh .i64)<+:cells.toList):Go.Sort.Holds (Vh .i64) w b 0 xs.toArray:=by
 intro j f;have a:j<xs.length:=by simpa using f
 constructor
 .have d:cells[j]? =Ua (Vh .i64 xs[j]):=by have⟨r,h⟩:=g;rw[<-Vb,<-h,Vr (by simpa using a),Vy,Va a];rfl
  simp[Vla,c,d];simp[a]
 simp[Vea,c]
theorem Zpc{cells}{a:V Int}(h:a.length<=cells.size):a.map (Vh .i64)<+:(Go.Sort.putCells (Vh .i64) 0 a.toArray cells).toList:=by
 rw[Vz];apply Vx;intro t;rw[Vw];by_cases b:t<a.length
 .rw[Zn (by simpa using b)];have c:(Go.Sort.putCells (Vh .i64) 0 a.toArray cells)[t]? =Ua (Vh .i64 a[t]):=by unfold Go.Sort.putCells;rw[Vda,Vf (by omega)];simp[b]
  rw[<-Vb]at c;rw[c,Vy,Va b];rfl
 rw[Zg (by simpa using b),Vn (by simp;omega)]
theorem Zno{w enc b n}{d:Array Int}{os a}(h:a<w.heap.size)(c:a≠b):(Go.Sort.grow (Go.Sort.putRow enc (Go.Sort.ahead w n) b 0 d) os).heap[a]? =w.heap[a]? :=by unfold Go.Sort.putRow Go.Sort.mapBlock Go.Sort.grow Go.Sort.ahead;rw[Ve (by simp;exact h),Vg,Zg (Ne.symm c)]
theorem Znp{w enc b n}{d:Array Int}{os cells e}(h:b<w.heap.size)(a:w.heap[b]? =Ua (.cells cells e (0,0))):(Go.Sort.grow (Go.Sort.putRow enc (Go.Sort.ahead w n) b 0 d) os).heap[b]? =Ua (.cells (Go.Sort.putCells enc 0 d cells) e (0,0)):=by unfold Go.Sort.putRow Go.Sort.mapBlock Go.Sort.grow Go.Sort.ahead;rw[Ve (by simp;exact h),Vg,Zn rfl];rw[a];rfl
section
variable {P:Program}{ρ:Ren}
theorem sortInt_ok (L:Lays.n189 P ρ) (hf:∃fn,P.funcs[ρ.f 189]? =some fn∧fn.body.isNone=false∧(fn.name== "runtime.NumGoroutine")=false):ZR P (ρ.f 189) Zkp where
 wf:=rfl
 fn:=hf
 run:=by
  intro w I a1 js x (z:V Int) M J c hI _ k;obtain⟨m,j2,v,r,rfl,rfl,⟨K,t⟩,rfl,rfl⟩:=M;have j:Kb v=false:=t.resolve_left λh=>by cases h
  have R:x.1.length<4294967296/\YS x.1=z:=by
   have k:sortI x.1=Ua z:=k;unfold sortI at k
   cases A:Ue (x.1.length<4294967296) with|false=>rw[A]at k;simp at k|true=>rw[A]at k;simp[Z4]at k;exact⟨Xw A,k⟩
  obtain⟨a0,rfl⟩:=R;have l:=ZcM x.1;have back:∀{g}{T},T=.tuple #[]->PC g I (.own ITy Uc) (YS x.1) m v.cells.toList->(∀b,I b->b<g.heap.size)->g.os=w.os->g.tape=w.tape->Y2 g w->w.heap.size<=g.heap.size->(∀b,b<w.heap.size->b ∉ m->g.heap[b]? =w.heap[b]?)->
   Rv Zkp w I (m++[]) [v] (Zkp.unp (YS x.1)) T g:=by
   intro g T N p s h1 h2 W h4 h5;refine⟨I,m++[],[],⟨m,[],_,_,rfl,rfl,p,rfl⟩,⟨[],⟨rfl,rfl⟩,N⟩,by simpa using J,λb i=>?_,λ_ h=>h,λb i=>⟨s b i,.inl i⟩,h1,h2,⟨W.out,λ_=>W.drawn⟩,h4,λb i hj=>h5 b i (by simpa using hj)⟩;have a:b∈m++[]:=by simpa using i
   exact⟨(c b (by simpa using a)).1,by have:=(c b (by simpa using a)).2;omega,.inl (by simpa using a)⟩
  obtain⟨rfl,hx,y⟩|⟨b,cap,cells,e,a2,rfl,y,hh,o,O,C,d⟩:=K
  .have Q:v=.slice Ub 0 0:=K3 y j;have S:YS x.1=[]:=by rw[hx];rfl
   subst Q;refine(Any.slices_Sort_int_none L Ub 0 w).mono ?_;rintro e g ⟨rfl,rfl⟩;exact⟨_,rfl,back rfl (.inl ⟨rfl,S,rfl⟩) hI rfl rfl .rfl (Vk _) λ_ _ _=>rfl⟩
  have Q:v=.slice (Ua ⟨b,0,Ub⟩) x.1.length cap:=K3 y j;subst Q;have i:=c b (by simp);rw[Zi3 C,Zf2]at d;have q:x.1.length<=cells.size:=by have:=d.length_le;simpa using this
  refine(Any.slices_Sort_int L b 0 cap x.1 w (Znq hh d) i.2 (by omega)).mono ?_;rintro ex g ⟨rfl,n,os,rfl⟩;rw[ZvU];have D:(YS x.1).length=x.1.length:=l.length_eq;refine⟨_,rfl,back rfl (.inr ⟨b,cap,_,e,_,rfl,by rw[D];simp[Vm],Znp i.2 hh,by rw[D];exact o,by unfold Go.Sort.putCells;simpa using O,Zjq _,by rw[Zf2];exact Zpc (by rw[D];exact q)⟩) (λU a=>?_) rfl rfl ⟨rfl,?_⟩ ?_ λU F a=>Zno F (by simpa using a)⟩;.have:=hI U a;simp;omega
  .show w.drawn<=w.drawn+n;omega
  simp
theorem compactInt_ok (L:Lays2.n20 P ρ) (hf:∃fn,P.funcs[ρ.f 20]? =some fn∧fn.body.isNone=false∧(fn.name== "runtime.NumGoroutine")=false):ZR P (ρ.f 20) ZiG where
 wf:=rfl
 fn:=hf
 run:=by
  intro w I a1 js x (z:V Int) J F c U _ l;obtain⟨q,j2,v,r,rfl,rfl,⟨m,t⟩,rfl,rfl⟩:=J;have j:Kb v=false:=t.resolve_left λh=>by cases h
  have O:x.1.length<4294967296/\Jx x.1=z:=by
   have l:compactI x.1=Ua z:=l;unfold compactI at l
   cases A:Ue (x.1.length<4294967296) with|false=>rw[A]at l;simp at l|true=>rw[A]at l;simp[Zf,Z4]at l;exact⟨Xw A,l⟩
  obtain⟨a0,rfl⟩:=O;have a3:=Zmt x.1;have back:∀{i}{R},RV i I (.cons (.own ITy Ud) .nil) (Jx x.1,()) q R->(∀b,I b->b<i.heap.size)->i.os=w.os->i.tape=w.tape->Y2 i w->w.heap.size<=i.heap.size->(∀b,b<w.heap.size->b ∉ q->i.heap[b]? =w.heap[b]?)->
   Rv ZiG w I (q++[]) [v] (ZiG.unp (Jx x.1)) R i:=by
   intro i R K s h1 h2 T h4 h5;refine⟨I,[],q,⟨[],[],_,_,rfl,rfl,rfl,rfl⟩,K,by simpa using F,λb k=>?_,λ_ h=>h,λb k=>⟨s b k,.inl k⟩,h1,h2,⟨T.out,λ_=>T.drawn⟩,h4,λb k hj=>h5 b k (by simpa using hj)⟩;have a:b∈q++[]:=by simpa using k
   exact⟨(c b a).1,by have:=(c b a).2;omega,.inl a⟩
  obtain⟨rfl,hx,y⟩|⟨b,cap,cells,e,a2,rfl,y,W,o,M,C,g⟩:=m
  .have N:v=.slice Ub 0 0:=K3 y j;subst N;refine(Any.slices_Compact_int_empty L Ub 0 w).mono ?_;rintro e i ⟨rfl,rfl⟩;have Q:Jx x.1=[]:=by rw[hx];rfl
   exact⟨_,rfl,back ⟨[.slice Ub 0 0],⟨[],[],_,_,rfl,rfl,⟨.inl ⟨rfl,Q,rfl⟩,.inr rfl⟩,rfl,rfl⟩,rfl⟩ U rfl rfl .rfl (Vk _) λ_ _ _=>rfl⟩
  have N:v=.slice (Ua ⟨b,0,Ub⟩) x.1.length cap:=K3 y j;subst N;have k:=c b (by simp);rw[Zi3 C,Zf2]at g;have p:x.1.length<=cells.size:=by have:=g.length_le;simpa using this
  refine(Any.slices_Compact_int L b 0 cap x.1 w (Znq W g) (by omega) o).mono ?_;rintro ex i ⟨rfl,n,rfl⟩;rw[Zub];have hl:(Jx x.1++Vpa (x.1.length - (Jx x.1).length) 0).length=x.1.length:=by simp;omega
  have e0:∀d,Go.Sort.putRow (Vh .i64) (Go.Sort.ahead w n) b 0 d=Go.Sort.grow (Go.Sort.putRow (Vh .i64) (Go.Sort.ahead w n) b 0 d) #[]:=λd=>by generalize Go.Sort.putRow (Vh .i64) (Go.Sort.ahead w n) b 0 d=w2;cases w2;simp[Go.Sort.grow]
  rw[e0];have m:PC (Go.Sort.grow (Go.Sort.putRow (Vh .i64) (Go.Sort.ahead w n) b 0 (Jx x.1++Vpa (x.1.length - (Jx x.1).length) 0).toArray) #[]) I (.own ITy Ud) (Jx x.1) [b] [.slice (Ua ⟨b,0,Ub⟩) (Jx x.1).length cap]:=
   .inr ⟨b,cap,_,e,_,rfl,rfl,Znp k.2 W,by omega,by unfold Go.Sort.putCells;simpa using M,Zjq _,by rw[Zf2];exact(by rw[Voa];exact List.prefix_append _ _:List.map (Vh .i64) (Jx x.1)<+:_).trans (Zpc (by rw[hl];exact p))⟩
  refine⟨_,rfl,back ⟨[.slice (Ua ⟨b,0,Ub⟩) (Jx x.1).length cap],⟨[b],[],_,_,rfl,rfl,⟨m,.inr rfl⟩,rfl,rfl⟩,rfl⟩ (λS a=>?_) rfl rfl ⟨rfl,?_⟩ ?_ λS D a=>Zno D (by simpa using a)⟩;.have:=U S a;simp;omega
  .show w.drawn<=w.drawn+n;omega
  simp
end
section
variable {P:Program}{ρ:Ren}
end
end Tr
end
section
namespace Q
open Tr Go
theorem Kg{σ τ}{step} n(P:τ->Prop)(Inv:Nat->σ->Prop)
 (a:∀i s,i<n->Inv i s->(∃s',step s=Ua (.inl s')/\Inv (i+1) s')\/∃r,step s=Ua (.inr r)/\P r)
 (c:∀s,Inv n s->∃r,step s=Ua (.inr r)/\P r) s (h:Inv 0 s):∃r,run step s=Ua r/\P r:=by
 have key:∀k i s,n - i=k->i<=n->Inv i s->∃r,run step s=Ua r/\P r:=by
  intro k
  induction k with
  |zero=>
   intro i s g f e;have:i=n:=by omega
   subst this;have⟨r,b,d⟩:=c s e
   exact⟨r,J3 b,d⟩|succ k j=>
   intro i s g f e;rcases a i s (by omega) e with ⟨s',b,d⟩|⟨r,b,d⟩;.rw[YX b];grind
   exact⟨r,J3 b,d⟩
 grind
theorem KK{α β:Type}{o f}{z:Option β}(P:α->Prop)(h:∃r,o=Ua r/\P r)(k:∀r,P r->f r=z):Vca o f=z:=by grind
theorem Gn{α β a:Type}{o}{f:α->Option (β ⊕ a)}{Q:β->Prop}(P:α->Prop)(h:∃r,o=Ua r/\P r)(k:∀r,P r->∃s,f r=Ua (.inl s)/\Q s):∃s,Vca o f=Ua (.inl s)/\Q s:=by grind
end Q
end
section
namespace Tr
open Go
section
variable {P:Program}{E:Kh}
theorem ZmS(hT:Z0 P E)(hS:∀f,∀S∈E.specs f,ZR P f S)(hI:∀B,(B.pl=Ud->GK P B.w0 B.own0)->(B.pl=Uc->∀f,∀T∈E.specs f,T.pl=Uc)->∀f h,E.inl f=Ua h->Ze1 P B E.stp f h){f fn body}(hf:P.funcs[f]? =Ua fn)(l:fn.body=Ua body)(d0:E.nt=fn.ntmps)
 {S} (c4:S.args.wf=Uc) (a1:Nat.ble S.args.len E.nt=Uc) {pack:WS S.args×KX S.res->S.α} (b7:∀y,S.unp (pack y)=y) (a5:S.pl=Uc->∀f,∀T∈E.specs f,T.pl=Uc)
 (L:∀x z,S.f x=Ua z->∀{B}{w}{g}{ow}{a},JO P {E with ks:=X4 S.args 0} B->SR {E with ks:=X4 S.args 0} B ⟨(Z5 S.args x 0).1.toF,WM (Z5 S.args x 0).2.1,(Z5 S.args x 0).2.2,[]⟩ w g ow a->body.wp P (WY {E with ks:=X4 S.args 0} B ⟨(Z5 S.args x 0).1.toF,WM (Z5 S.args x 0).2.1,(Z5 S.args x 0).2.2,[]⟩ w g a (λe s=>(YO E fn.results S.args S.res [] e s).bind λy=>bif DF (X4 S.args 0) (Z5 S.args x 0).1 (WM (Z5 S.args x 0).2.1) s S.kp then Ua (pack y) else Ub) z) a w):Zb9 P f S:=by
 intro w I c js x z Q b2 c8 a9 amb hz;have d3:=ZhO Q;have c9:=Nat.le_of_ble_eq_true a1;refine calls_of_wp hf l ?_;have L:= @L x z hz
 let B:KR:={w0:=w,own0:=(· ∈js),I0:=I,pl:=S.pl}
 let g0:Gh:={I:=I,K:=λ_=>False,ty:=λ_=>.unit,blk:=λ_=>Ub,slv:=λ_=>undef,ver:=λ_=>0,row:=λ_ _ _=>undef}
 have b0:RH B (λ_=>Ub) w g0 (λ_ _=>False):={
  objs:=by simp
  dist:=by simp
  sep:=by simp
  ilt:=a9
  inew:=by grind
  os:=rfl
  tape:=rfl
  output:=.rfl
  size:=Vk _
  kept:=(by grind)}
 have M:W3 B (λ_=>Ub) w g0 (λ_ _=>False) js:=⟨b2,by grind⟩;have⟨g1,c5,l1,i1,r1,c1,k1,_⟩:=Zgf S.args b0 x js c 0 Q M (by grind);have c7:WM (Z5 S.args x 0).2.1=Zu (λ_=>Ub) (Wl (Z5 S.args x 0).2.1):=by funext id;rw[Zee _ _ _ (Zd9 _ _ _)];grind
 have hs:SR {E with ks:=X4 S.args 0} B ⟨(Z5 S.args x 0).1.toF,WM (Z5 S.args x 0).2.1,(Z5 S.args x 0).2.2,[]⟩ w g1 c5 {tmps:=c.toArray++Vaa (fn.ntmps - c.toArray.size) undef,defers:=[] }:={
  rh:=by grind
  fr:=λt=>by have:=Zhd c1 (fn.ntmps - c.length) t;simpa[Vo,List.getD_eq_getElem?_getD,<-Vb] using this
  nt:=by grind
  df:=rfl
  ids:=by grind
  fz:=(by simp)}
 refine wp_mono (L (B:=B) ⟨hS,amb,a5,hI B amb a5⟩ hs) ?_;rintro e a' w' ⟨ex,D,g',m,rfl,d,p,N⟩;rw[Vc]at N;have⟨y,hy,a8⟩:=N
 cases a0:DF (X4 S.args 0) (Z5 S.args x 0).1 (WM (Z5 S.args x 0).2.1) D S.kp with
 |false=>grind|true=>
 rw[a0]at a8;simp only[Zf,Z4]at a8;have b3:RB S.kp c w w' :=Zjy hs.rh d.rh c1 p.lk.le (λk N v hv=>by
  have J:=d.fr k;rw[p.lk.ks k N]at J;have r:(c.toArray++Vaa (fn.ntmps - c.toArray.size) undef).getD k undef=v:=by have⟨b4,_⟩:=Vq.1 hv;simp only[Vo,<-Vb];grind
  grind) S.kp a0
 have key:∀(j:YO E fn.results S.args S.res [] .normal D=Ua y),a'.defers=[]/\∃v,(results fn a'.tmps).run P w' =.ok v w' /\∃rv,Ending.returned v=.returned rv/\Rv S w I js c (S.unp z) rv w' /\RB S.kp c w w' :=by
  intro j;refine⟨d.df,?_⟩;simp only[YO,ZE.runK_eq]at j;rw[Vc]at j;have⟨⟨⟨yv,ids⟩,rd⟩,C,j⟩:=j;simp only[ZY,Zr,Prod.mk.injEq]at C;obtain⟨vs,m1,a7,⟨xr,o⟩,m2,W,⟨yo,io⟩,m3,a4,⟨rfl,rfl⟩,_⟩:=C;simp only at j
  cases hc:((ZI.app io o).ok [] &&Xe (ZI.app io o).br []) with
  |false=>grind|true=>
   rw[hc]at j;simp only[Zf,Z4]at j;subst j;simp only[Vi]at hc;have⟨b5,c6,_⟩:=ZI.ok_iff hc.1;have a2:(io.tk++o.tk).Nodup:=b5;have⟨n1,n2,n3⟩:=Vka.1 a2;have⟨q,b8,b9⟩:=Zey hT d.rh d.fr fn.results.toList vs [] m1 a7;have R:∀b,g'.I b->g'.I b\/ZO D.H m (ZI.app io o).br b:=by grind
   have U:∀(i:ZI),(∀n∈i.br,n∈(ZI.app io o).br)->∀b,ZO D.H m i.br b->g'.I b\/ZO D.H m (ZI.app io o).br b:=λi hi b l=>.inr (Wx hi l);have⟨jr,d2,c2,a6⟩:=ZiW d.rh R S.res vs q xr o m1 m2 W b9 (U o λn O=>by simp[ZI.app,O]) n2;have⟨jo,d1,b6,a3⟩:=ZgE (F:=D.F) d.rh R (w0:=w) (I0:=I) S.args 0 c x js yo io m2 m3 a4 c4 Q (λk v N hv=>by
    rw[Vs]at N⊢;have J:=d.fr k;rw[p.lk.ks k N]at J;have b4:k<c.length:=by grind
    have r:(c.toArray++Vaa (fn.ntmps - c.toArray.size) undef).getD k undef=v:=by simp only[Vo,<-Vb];grind
    grind) (U io λn O=>by simp[ZI.app,O]) n1
   refine⟨Zaj q,Zkm b8,Zaj q,rfl,⟨(λb=>g'.I b\/ZO D.H m (ZI.app io o).br b),jo,jr,?_,⟨q,?_,rfl⟩,?_,?_,?_,?_,d.rh.os,d.rh.tape,d.rh.output,d.rh.size,λb J r=>d.rh.kept b J r⟩,b3⟩;.grind
   .grind
   .refine Vka.2 ⟨b6,c2,λb l b' b1 e=>?_⟩;subst e;have⟨id,J,r⟩:=HT d.rh (a3 b l) (a6 b b1);grind
   .intro b l;have A:ZO D.H m (ZI.app io o).tk b:=by
     obtain h|h:=List.mem_append.1 l;.exact Wx (λn O=>by simp[ZI.app,O]) (a3 b h)
     exact Wx (λn O=>by simp[ZI.app,O]) (a6 b h)
    have⟨id,J,r,h3⟩:=id A;have⟨h4,h5,h6⟩:=d.rh.sep id b r h3;refine⟨λh=>?_,h5,h6⟩;obtain h|h:=h;.grind
    have⟨k,h7,h8⟩:=HT d.rh h A;grind
   .intro b l;refine .inl (p.lk.le.I b ?_);rw[i1.I];omega
   intro b l;obtain l|⟨id,_,r,h3⟩:=l
   .refine⟨d.rh.ilt b l,?_⟩;obtain h|h|h:=d.rh.inew b l;all_goals grind
   have⟨_,h5,h6⟩:=d.rh.sep id b r h3;grind
 cases ex with|normal=>exact key hy|exit _|jump _=>simp[YO]at hy|ret=>exact key (by assumption)
end
end Tr
end
