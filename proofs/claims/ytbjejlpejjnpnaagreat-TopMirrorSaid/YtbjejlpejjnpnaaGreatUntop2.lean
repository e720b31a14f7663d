/- feasible.checker.own and .place. Conditions: none. -/
import Derived.KernelRfl
import Derived.Test.YtbjejlpejjnpnaaGreatUntop1
open Go.Instr renaming buildSlice ->Vd
open Go.Result renaming andThen_ok ->Va
open Go.Sem renaming run_bind ->Vb,run_pure ->Vc
namespace Tr
open Go Go.Proofs Go.RowKit
variable {P:Program}{ops:Array Oper}{Q:Exit->Act->World->Prop}{a:Act}{w w' :World}{rest:List Oper}{o:Oper}
theorem W3(v:Value)(c:o.guard=none)(d:(execOp a.eval o).run P w=.ok (.value v) w')(h:wpList P ops Q rest (a.put o.dst v) w'):wpList P ops Q (o::rest) a w:=
 wpList_step fun K b=>by rw[Zp (by simp [Region.wanted,c])];unfold Oper.wp;rw[d];exact b _ _ h
theorem ZrO{T:TypeId}{b n:Nat}{cs:Array Value}{e:TypeId}(f:w.heap[b]? =some (.cells cs e (0,0)))(c:∀w,(isAgg T).run P w=.ok true w)(d:∀w,(Go.sizeOf T).run P w=.ok n w)(h:cs.size=n):(loadVar T ⟨b,0,none⟩).run P w=.ok (.agg cs) w:=by have g:YQ w b 0 cs.toList:=YQ.of_heap (pre:=[]) (post:=[]) f (by simp);simp only[loadVar,Vb,c,Va,if_true,d];have:=run_loadCells_list (P:=P) w ⟨b,0,none⟩ cs.toList g.add;rw[Array.length_toList,h]at this;rw[this];simp
theorem Dq{T:TypeId}{b n:Nat}{cs:Array Value}{e:TypeId}(f:w.heap[b]? =some (.cells cs e (0,0)))(c:∀w,(isAgg T).run P w=.ok true w)(d:∀w,(Go.sizeOf T).run P w=.ok n w)(g:cs.size=n){x:Operand}(h:o.op=.load T x)(i:a.eval x=.pointer (some ⟨b,0,none⟩)):(execOp a.eval o).run P w=.ok (.value (.agg cs)) w:=by simp only[execOp,h,i,Instr.loadAt,Instr.sureAddr,Vb,Vc,Va,ZrO f c d g]
theorem G6{f:FuncId}{x:Operand}{v:Value}(b:o.op=.makeFunc (.func f) #[x] #[])(c:a.eval x=v):(execOp a.eval o).run P w=.ok (.value (.func (.func f) #[v] #[])) w:=by simp only[execOp,b,Instr.makeFunc,Vb,Vc,Va];simp [c]
theorem Zlk{f:FuncId}{args:Array Value}(i:o.guard=none)(j:(execOp a.eval o).run P w=.ok (.enter f args) w')(h:Calls P f args w' fun e b=>match e with
 |.returned v=>wpList P ops Q rest (a.put o.dst v) b
 |.panicked chain=>Q (.panic chain) a b
 |.outgrown=>LetsOut Q):wpList P ops Q (o::rest) a w:=
 wpList_step fun K g=>by
  rw[Zp (by simp [Region.wanted,i])];unfold Oper.wp;rw[j,Oper.upon_enter];refine h.mono ?_;intro e b d
  cases e with
  |returned v=>exact g _ _ d
  |panicked c=>exact d
  |outgrown=>exact d
theorem ZdX(w:World)(o:Obj):(w.alloc o).heap[w.heap.size]? =some o:=by show (w.heap.push o)[w.heap.size]? =some o;simp
theorem Kp.alloc(w:World)(o:Obj):Kp w (w.alloc o) where
 os:=rfl
 tape:=rfl
 out:=⟨rfl,Nat.le_refl _⟩
 size:=by show w.heap.size<=(w.heap.push o).size;simp
 heap:=by intro b c;show (w.heap.push o)[b]? =w.heap[b]?;rw[Array.getElem?_push_lt c,Array.getElem?_eq_getElem c]
set_option maxHeartbeats 4000000 in
set_option maxRecDepth 1000000 in
theorem Zso(cs:Array Value)(c:cs.size=21)(w:World)(r:Int)(m:∀u,Kp w u->GZ (.agg cs) u [210,211,212,213] r):
 Calls Tryz.prog 167 #[.agg cs] w fun e w' =>e=.returned (.int .i64 r)/\Kp w w' :=by
 go_enter Tryz.func167,Tryz.ntmps167
 refine wp_seq (wp_region_list ?_);refine W3 (w' :=w.alloc (.cells cs 194 (0,0))) (.pointer (some ⟨w.heap.size,0,none⟩)) rfl ?_ ?_
 ·simp only[execOp,Instr.box,Vb,Va,newVar,newRow,run_newObj,Vc];rfl
 change wpList Tryz.prog _ _ _ ⟨#[.agg cs,.pointer (some ⟨w.heap.size,0,none⟩),undef,undef,undef,undef,undef,undef,undef,undef,undef,undef,undef],[]⟩ _
 refine W3 (.int .i64 0) rfl rfl ?_
 change wpList Tryz.prog _ _ _ ⟨#[.agg cs,.pointer (some ⟨w.heap.size,0,none⟩),.int .i64 0,undef,undef,undef,undef,undef,undef,undef,undef,undef,undef],[]⟩ _
 refine wpList_nil ?_;have k:Kp w (w.alloc (.cells cs 194 (0,0))):=Kp.alloc w _;have g:(w.alloc (.cells cs 194 (0,0))).heap[w.heap.size]? =some (.cells cs 194 (0,0)):=ZdX w _;generalize w.alloc (.cells cs 194 (0,0))=b at k g⊢;refine wp_seq (wp_region_list ?_);refine W3 _ rfl (Dq g Tryz.isAgg194 Tryz.sizeOf194 c rfl rfl) ?_
 change wpList Tryz.prog _ _ _ ⟨#[.agg cs,.pointer (some ⟨w.heap.size,0,none⟩),.int .i64 0,.agg cs,undef,undef,undef,undef,undef,undef,undef,undef,undef],[]⟩ _
 refine W3 _ rfl (G6 rfl rfl) ?_
 change wpList Tryz.prog _ _ _ ⟨#[.agg cs,.pointer (some ⟨w.heap.size,0,none⟩),.int .i64 0,.agg cs,.func (.func 210) #[.agg cs] #[],undef,undef,undef,undef,undef,undef,undef,undef],[]⟩ _
 refine W3 _ rfl (Dq g Tryz.isAgg194 Tryz.sizeOf194 c rfl rfl) ?_
 change wpList Tryz.prog _ _ _ ⟨#[.agg cs,.pointer (some ⟨w.heap.size,0,none⟩),.int .i64 0,.agg cs,.func (.func 210) #[.agg cs] #[],.agg cs,undef,undef,undef,undef,undef,undef,undef],[]⟩ _
 refine W3 _ rfl (G6 rfl rfl) ?_
 change wpList Tryz.prog _ _ _ ⟨#[.agg cs,.pointer (some ⟨w.heap.size,0,none⟩),.int .i64 0,.agg cs,.func (.func 210) #[.agg cs] #[],.agg cs,.func (.func 211) #[.agg cs] #[],undef,undef,undef,undef,undef,undef],[]⟩ _
 refine W3 _ rfl (Dq g Tryz.isAgg194 Tryz.sizeOf194 c rfl rfl) ?_
 change wpList Tryz.prog _ _ _ ⟨#[.agg cs,.pointer (some ⟨w.heap.size,0,none⟩),.int .i64 0,.agg cs,.func (.func 210) #[.agg cs] #[],.agg cs,.func (.func 211) #[.agg cs] #[],.agg cs,undef,undef,undef,undef,undef],[]⟩ _
 refine W3 _ rfl (G6 rfl rfl) ?_
 change wpList Tryz.prog _ _ _ ⟨#[.agg cs,.pointer (some ⟨w.heap.size,0,none⟩),.int .i64 0,.agg cs,.func (.func 210) #[.agg cs] #[],.agg cs,.func (.func 211) #[.agg cs] #[],.agg cs,.func (.func 212) #[.agg cs] #[],undef,undef,undef,undef],[]⟩ _
 refine W3 _ rfl (Dq g Tryz.isAgg194 Tryz.sizeOf194 c rfl rfl) ?_
 change wpList Tryz.prog _ _ _ ⟨#[.agg cs,.pointer (some ⟨w.heap.size,0,none⟩),.int .i64 0,.agg cs,.func (.func 210) #[.agg cs] #[],.agg cs,.func (.func 211) #[.agg cs] #[],.agg cs,.func (.func 212) #[.agg cs] #[],.agg cs,undef,undef,undef],[]⟩ _
 refine W3 _ rfl (G6 rfl rfl) ?_
 change wpList Tryz.prog _ _ _ ⟨#[.agg cs,.pointer (some ⟨w.heap.size,0,none⟩),.int .i64 0,.agg cs,.func (.func 210) #[.agg cs] #[],.agg cs,.func (.func 211) #[.agg cs] #[],.agg cs,.func (.func 212) #[.agg cs] #[],.agg cs,.func (.func 213) #[.agg cs] #[],undef,undef],[]⟩ _
 refine W3 (w' :=b.alloc (.cells #[.func (.func 210) #[.agg cs] #[],.func (.func 211) #[.agg cs] #[],.func (.func 212) #[.agg cs] #[],.func (.func 213) #[.agg cs] #[]] 195 (0,0))) (.slice (some ⟨b.heap.size,0,none⟩) 4 4) rfl ?_ ?_
 ·have n:Tryz.prog.underlying 273=some (.slice 195):=by kernel_rfl
  simp only[execOp,Vd,underlying,Vb,run_program,Va,Vc,n,Tryz.sizeOf195];simp [go_sem]
 change wpList Tryz.prog _ _ _ ⟨#[.agg cs,.pointer (some ⟨w.heap.size,0,none⟩),.int .i64 0,.agg cs,.func (.func 210) #[.agg cs] #[],.agg cs,.func (.func 211) #[.agg cs] #[],.agg cs,.func (.func 212) #[.agg cs] #[],.agg cs,.func (.func 213) #[.agg cs] #[],.slice (some ⟨b.heap.size,0,none⟩) 4 4,undef],[]⟩ _
 have d:Kp w (b.alloc (.cells #[.func (.func 210) #[.agg cs] #[],.func (.func 211) #[.agg cs] #[],.func (.func 212) #[.agg cs] #[],.func (.func 213) #[.agg cs] #[]] 195 (0,0))):=k.trans (Kp.alloc b _);have h:(b.alloc (.cells #[.func (.func 210) #[.agg cs] #[],.func (.func 211) #[.agg cs] #[],.func (.func 212) #[.agg cs] #[],.func (.func 213) #[.agg cs] #[]] 195 (0,0))).heap[b.heap.size]? =some (.cells #[.func (.func 210) #[.agg cs] #[],.func (.func 211) #[.agg cs] #[],.func (.func 212) #[.agg cs] #[],.func (.func 213) #[.agg cs] #[]] 195 (0,0)):=ZdX b _;generalize (b.alloc (.cells #[.func (.func 210) #[.agg cs] #[],.func (.func 211) #[.agg cs] #[],.func (.func 212) #[.agg cs] #[],.func (.func 213) #[.agg cs] #[]] 195 (0,0)))=l at d h⊢
 refine Zlk (f:=166) (args:= #[.slice (some ⟨b.heap.size,0,none⟩) 4 4]) rfl ?_ ((ZmZ (.agg cs) l b.heap.size [210,211,212,213] 195 h (by decide) r (m l d)).mono ?_)
 ·simp [execOp,resolve,go_sem]
 rintro e p ⟨rfl,i⟩
 change wpList Tryz.prog _ _ _ ⟨#[.agg cs,.pointer (some ⟨w.heap.size,0,none⟩),.int .i64 0,.agg cs,.func (.func 210) #[.agg cs] #[],.agg cs,.func (.func 211) #[.agg cs] #[],.agg cs,.func (.func 212) #[.agg cs] #[],.agg cs,.func (.func 213) #[.agg cs] #[],.slice (some ⟨b.heap.size,0,none⟩) 4 4,.int .i64 r],[]⟩ _
 refine W3 _ rfl rfl ?_
 change wpList Tryz.prog _ _ _ ⟨#[.agg cs,.pointer (some ⟨w.heap.size,0,none⟩),.int .i64 r,.agg cs,.func (.func 210) #[.agg cs] #[],.agg cs,.func (.func 211) #[.agg cs] #[],.agg cs,.func (.func 212) #[.agg cs] #[],.agg cs,.func (.func 213) #[.agg cs] #[],.slice (some ⟨b.heap.size,0,none⟩) 4 4,.int .i64 r],[]⟩ _
 refine wpList_nil ?_;have j:=d.trans i
 go_wp2
 go_ret
 exact⟨rfl,j⟩
set_option maxHeartbeats 4000000 in
set_option maxRecDepth 1000000 in
theorem Zsu(cs:Array Value)(c:cs.size=21)(w:World)(r:Int)(m:∀u,Kp w u->GZ (.agg cs) u [167,168,169,170,171] r):
 Calls Tryz.prog 116 #[.agg cs] w fun e w' =>e=.returned (.int .i64 r)/\Kp w w' :=by
 go_enter Tryz.func116,Tryz.ntmps116
 refine wp_seq (wp_region_list ?_);refine W3 (w' :=w.alloc (.cells cs 194 (0,0))) (.pointer (some ⟨w.heap.size,0,none⟩)) rfl ?_ ?_
 ·simp only[execOp,Instr.box,Vb,Va,newVar,newRow,run_newObj,Vc];rfl
 change wpList Tryz.prog _ _ _ ⟨#[.agg cs,.pointer (some ⟨w.heap.size,0,none⟩),undef,undef,undef,undef,undef,undef,undef,undef,undef,undef,undef,undef,undef],[]⟩ _
 refine W3 (.int .i64 0) rfl rfl ?_
 change wpList Tryz.prog _ _ _ ⟨#[.agg cs,.pointer (some ⟨w.heap.size,0,none⟩),.int .i64 0,undef,undef,undef,undef,undef,undef,undef,undef,undef,undef,undef,undef],[]⟩ _
 refine wpList_nil ?_;have k:Kp w (w.alloc (.cells cs 194 (0,0))):=Kp.alloc w _;have g:(w.alloc (.cells cs 194 (0,0))).heap[w.heap.size]? =some (.cells cs 194 (0,0)):=ZdX w _;generalize w.alloc (.cells cs 194 (0,0))=b at k g⊢;refine wp_seq (wp_region_list ?_);refine W3 _ rfl (Dq g Tryz.isAgg194 Tryz.sizeOf194 c rfl rfl) ?_
 change wpList Tryz.prog _ _ _ ⟨#[.agg cs,.pointer (some ⟨w.heap.size,0,none⟩),.int .i64 0,.agg cs,undef,undef,undef,undef,undef,undef,undef,undef,undef,undef,undef],[]⟩ _
 refine W3 _ rfl (G6 rfl rfl) ?_
 change wpList Tryz.prog _ _ _ ⟨#[.agg cs,.pointer (some ⟨w.heap.size,0,none⟩),.int .i64 0,.agg cs,.func (.func 167) #[.agg cs] #[],undef,undef,undef,undef,undef,undef,undef,undef,undef,undef],[]⟩ _
 refine W3 _ rfl (Dq g Tryz.isAgg194 Tryz.sizeOf194 c rfl rfl) ?_
 change wpList Tryz.prog _ _ _ ⟨#[.agg cs,.pointer (some ⟨w.heap.size,0,none⟩),.int .i64 0,.agg cs,.func (.func 167) #[.agg cs] #[],.agg cs,undef,undef,undef,undef,undef,undef,undef,undef,undef],[]⟩ _
 refine W3 _ rfl (G6 rfl rfl) ?_
 change wpList Tryz.prog _ _ _ ⟨#[.agg cs,.pointer (some ⟨w.heap.size,0,none⟩),.int .i64 0,.agg cs,.func (.func 167) #[.agg cs] #[],.agg cs,.func (.func 168) #[.agg cs] #[],undef,undef,undef,undef,undef,undef,undef,undef],[]⟩ _
 refine W3 _ rfl (Dq g Tryz.isAgg194 Tryz.sizeOf194 c rfl rfl) ?_
 change wpList Tryz.prog _ _ _ ⟨#[.agg cs,.pointer (some ⟨w.heap.size,0,none⟩),.int .i64 0,.agg cs,.func (.func 167) #[.agg cs] #[],.agg cs,.func (.func 168) #[.agg cs] #[],.agg cs,undef,undef,undef,undef,undef,undef,undef],[]⟩ _
 refine W3 _ rfl (G6 rfl rfl) ?_
 change wpList Tryz.prog _ _ _ ⟨#[.agg cs,.pointer (some ⟨w.heap.size,0,none⟩),.int .i64 0,.agg cs,.func (.func 167) #[.agg cs] #[],.agg cs,.func (.func 168) #[.agg cs] #[],.agg cs,.func (.func 169) #[.agg cs] #[],undef,undef,undef,undef,undef,undef],[]⟩ _
 refine W3 _ rfl (Dq g Tryz.isAgg194 Tryz.sizeOf194 c rfl rfl) ?_
 change wpList Tryz.prog _ _ _ ⟨#[.agg cs,.pointer (some ⟨w.heap.size,0,none⟩),.int .i64 0,.agg cs,.func (.func 167) #[.agg cs] #[],.agg cs,.func (.func 168) #[.agg cs] #[],.agg cs,.func (.func 169) #[.agg cs] #[],.agg cs,undef,undef,undef,undef,undef],[]⟩ _
 refine W3 _ rfl (G6 rfl rfl) ?_
 change wpList Tryz.prog _ _ _ ⟨#[.agg cs,.pointer (some ⟨w.heap.size,0,none⟩),.int .i64 0,.agg cs,.func (.func 167) #[.agg cs] #[],.agg cs,.func (.func 168) #[.agg cs] #[],.agg cs,.func (.func 169) #[.agg cs] #[],.agg cs,.func (.func 170) #[.agg cs] #[],undef,undef,undef,undef],[]⟩ _
 refine W3 _ rfl (Dq g Tryz.isAgg194 Tryz.sizeOf194 c rfl rfl) ?_
 change wpList Tryz.prog _ _ _ ⟨#[.agg cs,.pointer (some ⟨w.heap.size,0,none⟩),.int .i64 0,.agg cs,.func (.func 167) #[.agg cs] #[],.agg cs,.func (.func 168) #[.agg cs] #[],.agg cs,.func (.func 169) #[.agg cs] #[],.agg cs,.func (.func 170) #[.agg cs] #[],.agg cs,undef,undef,undef],[]⟩ _
 refine W3 _ rfl (G6 rfl rfl) ?_
 change wpList Tryz.prog _ _ _ ⟨#[.agg cs,.pointer (some ⟨w.heap.size,0,none⟩),.int .i64 0,.agg cs,.func (.func 167) #[.agg cs] #[],.agg cs,.func (.func 168) #[.agg cs] #[],.agg cs,.func (.func 169) #[.agg cs] #[],.agg cs,.func (.func 170) #[.agg cs] #[],.agg cs,.func (.func 171) #[.agg cs] #[],undef,undef],[]⟩ _
 refine W3 (w' :=b.alloc (.cells #[.func (.func 167) #[.agg cs] #[],.func (.func 168) #[.agg cs] #[],.func (.func 169) #[.agg cs] #[],.func (.func 170) #[.agg cs] #[],.func (.func 171) #[.agg cs] #[]] 195 (0,0))) (.slice (some ⟨b.heap.size,0,none⟩) 5 5) rfl ?_ ?_
 ·have n:Tryz.prog.underlying 273=some (.slice 195):=by kernel_rfl
  simp only[execOp,Vd,underlying,Vb,run_program,Va,Vc,n,Tryz.sizeOf195];simp [go_sem]
 change wpList Tryz.prog _ _ _ ⟨#[.agg cs,.pointer (some ⟨w.heap.size,0,none⟩),.int .i64 0,.agg cs,.func (.func 167) #[.agg cs] #[],.agg cs,.func (.func 168) #[.agg cs] #[],.agg cs,.func (.func 169) #[.agg cs] #[],.agg cs,.func (.func 170) #[.agg cs] #[],.agg cs,.func (.func 171) #[.agg cs] #[],.slice (some ⟨b.heap.size,0,none⟩) 5 5,undef],[]⟩ _
 have d:Kp w (b.alloc (.cells #[.func (.func 167) #[.agg cs] #[],.func (.func 168) #[.agg cs] #[],.func (.func 169) #[.agg cs] #[],.func (.func 170) #[.agg cs] #[],.func (.func 171) #[.agg cs] #[]] 195 (0,0))):=k.trans (Kp.alloc b _);have h:(b.alloc (.cells #[.func (.func 167) #[.agg cs] #[],.func (.func 168) #[.agg cs] #[],.func (.func 169) #[.agg cs] #[],.func (.func 170) #[.agg cs] #[],.func (.func 171) #[.agg cs] #[]] 195 (0,0))).heap[b.heap.size]? =some (.cells #[.func (.func 167) #[.agg cs] #[],.func (.func 168) #[.agg cs] #[],.func (.func 169) #[.agg cs] #[],.func (.func 170) #[.agg cs] #[],.func (.func 171) #[.agg cs] #[]] 195 (0,0)):=ZdX b _
 generalize (b.alloc (.cells #[.func (.func 167) #[.agg cs] #[],.func (.func 168) #[.agg cs] #[],.func (.func 169) #[.agg cs] #[],.func (.func 170) #[.agg cs] #[],.func (.func 171) #[.agg cs] #[]] 195 (0,0)))=l at d h⊢;refine Zlk (f:=166) (args:= #[.slice (some ⟨b.heap.size,0,none⟩) 5 5]) rfl ?_ ((ZmZ (.agg cs) l b.heap.size [167,168,169,170,171] 195 h (by decide) r (m l d)).mono ?_)
 ·simp [execOp,resolve,go_sem]
 rintro e p ⟨rfl,i⟩
 change wpList Tryz.prog _ _ _ ⟨#[.agg cs,.pointer (some ⟨w.heap.size,0,none⟩),.int .i64 0,.agg cs,.func (.func 167) #[.agg cs] #[],.agg cs,.func (.func 168) #[.agg cs] #[],.agg cs,.func (.func 169) #[.agg cs] #[],.agg cs,.func (.func 170) #[.agg cs] #[],.agg cs,.func (.func 171) #[.agg cs] #[],.slice (some ⟨b.heap.size,0,none⟩) 5 5,.int .i64 r],[]⟩ _
 refine W3 _ rfl rfl ?_
 change wpList Tryz.prog _ _ _ ⟨#[.agg cs,.pointer (some ⟨w.heap.size,0,none⟩),.int .i64 r,.agg cs,.func (.func 167) #[.agg cs] #[],.agg cs,.func (.func 168) #[.agg cs] #[],.agg cs,.func (.func 169) #[.agg cs] #[],.agg cs,.func (.func 170) #[.agg cs] #[],.agg cs,.func (.func 171) #[.agg cs] #[],.slice (some ⟨b.heap.size,0,none⟩) 5 5,.int .i64 r],[]⟩ _
 refine wpList_nil ?_;have j:=d.trans i
 go_wp2
 go_ret
 exact⟨rfl,j⟩
end Tr
