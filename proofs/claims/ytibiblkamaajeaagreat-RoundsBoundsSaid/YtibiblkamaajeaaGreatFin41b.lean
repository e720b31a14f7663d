/- The functions of the program as functions of Lean, and that the program computes them; printed by a program of mine. Conditions: none. -/
import Derived.Test.YtibiblkamaajeaaGreatFin41a
open Tr Go Go.Proofs
namespace Q
noncomputable section
def F111: (Tz0)→(El Y3)→Option (Tz0):=fun a0 a1=>
 (inb a1 (List.length a0.2.2.2.2.1)).bind fun x0=>
 Option.bind a0.2.2.2.2.1[x0]? fun x1=>
 (idx a0.1.2.2.1 a1).bind fun x2=>
 (idx x2.2.2.2.2.2.2.2.1 x1.1).bind fun x3=>
 Option.bind
 (run
 (fun s4=>
 bif decide (s4.2< (↑(List.length x2.2.2.2.2.2.2.2.1):Int)) then
 (idx x2.2.2.2.2.2.2.2.1 s4.2).bind fun x5=>
 Option.bind
 (bif !x5.2.2.2.2.1 then (idx s4.1.2.2.2.2.2.2.1 a1).bind fun x6=>some (decide ((↑(List.length x6):Int)=(0:Int)))
 else some false)
 fun x7=>
 bif x7 then
 some
 (.inl
 (s4.1,
 IntKind.wrap .i64 (s4.2+(1:Int))))
 else
 Option.bind
 (F105
 s4.1
 (true,a1,x1.1,s4.2,x3.1,x5.1,x3.2.2.1,x5.2.1,x1.2.2.1,()) x1.2.1)
 fun x8=>
 Option.bind
 (F107
 x8.1
 a1 s4.2 x8.2 x5.2.2.2.2.1)
 fun x9=>
 (inb x5.1 (List.length x9.2.2.1)).bind fun x10=>
 Option.bind
 (bif x5.2.2.2.2.1 then
 Option.bind x9.2.2.1[x10]? fun x11=>
 bif decide (x11.2.1=(-1:Int)) then some true
 else Option.bind x9.2.2.1[x10]? fun x12=>some (decide (x5.2.1<x12.2.1))
 else some false)
 fun x13=>
 bif x13 then
 Option.bind x9.2.2.1[x10]? fun x14=>
 Option.bind (List.set x9.2.2.1 x10 (x14.1,x5.2.1,x14.2.2))[x10]? fun x15=>
 some
 (.inl
 ((x9.1,x9.2.1,
 List.set (List.set x9.2.2.1 x10 (x14.1,x5.2.1,x14.2.2)) x10
 (x15.1,x15.2.1,x15.2.2.1,x15.2.2.2.1,x8.2,x15.2.2.2.2.2),
 x9.2.2.2.1,x9.2.2.2.2.1,x9.2.2.2.2.2.1,x9.2.2.2.2.2.2.1,()),
 IntKind.wrap .i64 (s4.2+(1:Int))))
 else
 some
 (.inl
 (x9,
 IntKind.wrap .i64 (s4.2+(1:Int))))
 else
 some
 (.inr
 s4.1))
 (a0,
 IntKind.wrap .i64 (x1.1+(1:Int))))
 fun x16=>some x16
abbrev F111A:Zam:=(.cons Pz1 (.cons (.pd Y3) .nil))
abbrev F111R:Zam:= .nil
def F111S:Tr.Spec:= {args:=F111A,res:=F111R,fns:=[],α:=Tz0,f:=fun x=>F111 x.1 x.2.1,unp:=fun z=>((z,(),()),()) }
def F111M:List (Nat×List Tr.Spec):=[(66,[F105S]),(102,[F107S])]
def F111H:ZaW:=(.seq .leaf (.seq .leaf (.seq .leaf (.seq .leaf (.seq .leaf (.lp ⟨[(0,Pz1),(7,(.pd Y3))],[],[1,4,5,6],[],[],[]⟩ [((.exit 0),⟨[(0,Pz1)],[],[],[],[],[]⟩)] (.seq .leaf (.seq (.seq .leaf (.seq (.seq (.reg [(58,Y4)]) .leaf) (.seq .leaf (.seq .leaf (.seq .leaf (.seq (.reg [(109,Y4)]) .leaf)))))) .leaf))))))))
def F111V (a0:Tz0) (a1:El Y3):Option (Tz0):=Zau (mkE tyTab mapTab pkTab [] [] F111M 119 bdTab) (Zai Tryz.f69) Tryz.f69.results F111H F111A F111R (fun y=>y.1.1) (a0,a1,())
theorem F111_eq (a0:Tz0) (a1:El Y3):F111V a0 a1=F111 a0 a1:=by kernel_rfl
theorem F111_ok:ZaU Tryz.prog 69 F111S:=Zac (m:=F111M) (fn:=Tryz.f69) (hint:=F111H) (pack:=fun y=>y.1.1) Za2 tab_ok ⟨⟨F105_ok,trivial⟩,⟨F107_ok,trivial⟩,trivial⟩ fun x z h=>(F111_eq x.1 x.2.1).trans h
def F110: (Tz1)→(El Y72)→Option (Tz1):=fun a0 a1=>
 Option.bind
 (Zap
 (decide
 ((0:El (Tr.Ty.int .i64))≤(↑(List.length a1):Int)∧
 (↑(List.length a1):Int)≤(↑(List.length a1):Int)∧(↑(List.length a1):Int)≤(↑Zaq:El (Tr.Ty.int .i64)))))
 fun _=>
 (F113 (↑(List.length a0.2.2.2.1):Int)).bind fun x1=>
 (F113 (↑(List.length a0.2.2.2.1):Int)).bind fun x2=>
 Option.bind
 (run
 (fun s3=>
 bif decide (s3.2< (↑(List.length a0.1.2.2.1):Int)) then
 (idx a0.1.2.2.1 s3.2).bind fun x4=>
 (inb s3.2 (List.length a0.2.2.2.1)).bind fun x5=>
 Option.bind a0.2.2.2.1[x5]? fun x6=>
 Option.bind
 (bif !decide (x6.1=(-1:Int)) then
 (inb s3.2 (List.length a0.2.2.2.1)).bind fun x7=>
 Option.bind a0.2.2.2.1[x7]? fun x8=>
 Option.bind
 (F106
 s3.1
 s3.2 x8)
 fun x9=>some x9
 else
 some
 s3.1)
 fun x10=>
 Option.bind
 (run
 (fun s11=>
 bif decide (s11.2< (↑(List.length x4.2.2.2.2.2.2.2.1):Int)) then
 (idx x4.2.2.2.2.2.2.2.1 s11.2).bind fun x12=>
 (idx a1 x12.1).bind fun x13=>
 Option.bind
 (bif x12.2.2.2.1 then
 bif !decide (x13.2.2.1=(-1:Int)) then
 bif decide (x13.2.2.1≤x12.2.2.1) then
 (inb s3.2 (List.length s11.1.2.2.2.2.1)).bind fun x14=>
 Option.bind s11.1.2.2.2.2.1[x14]? fun x15=>(F101 x15 s11.2).bind fun x16=>some x16
 else some false
 else some false
 else some false)
 fun x17=>
 bif x17 then
 Option.bind
 (F106
 s11.1
 s3.2 (s11.2,x13.2.2.2.2.2.1,false,()))
 fun x18=>
 some
 (.inl
 (x18,
 IntKind.wrap .i64 (s11.2+(1:Int))))
 else
 some
 (.inl
 (s11.1,
 IntKind.wrap .i64 (s11.2+(1:Int))))
 else
 some
 (.inr
 s11.1))
 (x10,(0:Int)))
 fun x19=>
 some
 (.inl
 (x19,
 IntKind.wrap .i64 (s3.2+(1:Int))))
 else
 some
 (.inr
 s3.1))
 ((a0.1,a0.2.1,
 List.take (Min.min (List.length a1) (List.length (List.replicate (Int.toNat (↑(List.length a1):Int)) (((0:Int),(0:Int),(0:Int),(0:Int),(0:Int),(0:Int),()))))) a1++
 List.drop (Min.min (List.length a1) (List.length (List.replicate (Int.toNat (↑(List.length a1):Int)) (((0:Int),(0:Int),(0:Int),(0:Int),(0:Int),(0:Int),())))))
 (List.replicate (Int.toNat (↑(List.length a1):Int)) (((0:Int),(0:Int),(0:Int),(0:Int),(0:Int),(0:Int),()))),
 x1,x2,[],a0.2.2.2.2.2.2.1,()),
 (0:Int)))
 fun x20=>
 Option.bind
 (run
 (fun s21=>
 bif decide ((0:Int)< (↑(List.length s21.2.2.2.2.2.1):Int)) then
 (inb (IntKind.wrap .i64 ((↑(List.length s21.2.2.2.2.2.1):Int) - (1:Int))) (List.length s21.2.2.2.2.2.1)).bind fun x22=>
 Option.bind s21.2.2.2.2.2.1[x22]? fun x23=>
 Option.bind
 (sliceB (List.length s21.2.2.2.2.2.1) (List.length s21.2.2.2.2.2.1) none
 (some (IntKind.wrap .i64 ((↑(List.length s21.2.2.2.2.2.1):Int) - (1:Int)))))
 fun x24=>
 Option.bind
 (F111
 (s21.1,s21.2.1,s21.2.2.1,s21.2.2.2.1,s21.2.2.2.2.1,List.take x24.2 s21.2.2.2.2.2.1,s21.2.2.2.2.2.2.1,())
 x23)
 fun x25=>
 some (.inl x25)
 else some (.inr s21))
 x20)
 fun x26=>
 Option.bind
 (run
 (fun s27=>
 bif decide (s27.2< (↑(List.length x26.2.2.1):Int)) then
 (inb s27.2 (List.length s27.1.2.2.1)).bind fun x28=>
 Option.bind s27.1.2.2.1[x28]? fun x29=>
 Option.bind
 (bif !decide (x29.2.1=(-1:Int)) then
 (idx a1 s27.2).bind fun x30=>
 bif decide (x30.2.1=(-1:Int)) then some true
 else (idx a1 s27.2).bind fun x31=>some (decide (x29.2.1<x31.2.1))
 else some false)
 fun x32=>
 bif x32 then
 (idx s27.1.1.1 s27.2).bind fun x33=>
 Option.bind
 (F108
 s27.1
 s27.2 x29.2.1 (IntKind.wrap .i64 (x29.2.1+x33.2.2.2.1)) x29.2.2.2.2.1)
 fun x34=>
 Option.bind
 (F112
 x34 s27.2
 x29.2.1 x29.2.2.2.2.1)
 fun x35=>
 some
 (.inl
 (x35,
 IntKind.wrap .i64 (s27.2+(1:Int))))
 else
 some
 (.inl
 (s27.1,
 IntKind.wrap .i64 (s27.2+(1:Int))))
 else
 some
 (.inr
 s27.1))
 (x26,(0:Int)))
 fun x36=>some x36
abbrev F110A:Zam:=(.cons Pz3 (.cons (.pd Y72) .nil))
abbrev F110R:Zam:= .nil
def F110S:Tr.Spec:= {args:=F110A,res:=F110R,fns:=[],α:=Tz1,f:=fun x=>F110 x.1 x.2.1,unp:=fun z=>((z,(),()),()) }
def F110M:List (Nat×List Tr.Spec):=[(43,[F113S]),(44,[F108S]),(45,[F112S]),(67,[F106S]),(68,[F101S]),(69,[F111S])]
def F110H:ZaW:=(.seq .leaf (.seq .leaf (.seq .leaf (.seq .leaf (.seq .leaf (.seq .leaf (.seq (.seq .leaf (.lp ⟨[(0,Pz1),(50,(.pd Y3))],[],[1,4,48,49],[],[],[]⟩ [((.exit 0),⟨[(0,Pz1)],[],[1],[],[],[]⟩)] (.seq .leaf (.seq .leaf (.seq (.seq .leaf (.seq (.seq .leaf (.cnd (some (⟨[],[],[1,4,5,6,48,49,50],[],[],[]⟩,[(.normal,⟨[(0,Pz1)],[],[1,4,5,6,48,49,50],[],[],[]⟩)])) .leaf .leaf)) (.seq .leaf (.lp ⟨[(0,Pz1),(71,(.pd Y3))],[],[1,4,5,48,49,50,69,70],[],[],[]⟩ [((.exit 2),⟨[(0,Pz1)],[],[1,4,48,49,50],[],[],[]⟩)] (.seq .leaf (.seq .leaf (.seq (.seq .leaf (.seq .leaf (.seq (.reg [(105,Y4)]) .leaf))) .leaf))))))) .leaf))))) (.seq (.lp ⟨[(0,Pz1)],[],[1],[],[],[]⟩ [((.exit 4),⟨[(0,Pz1)],[],[1],[],[],[]⟩)] .leaf) (.seq .leaf (.lp ⟨[(0,Pz1),(155,(.pd Y3))],[],[1,154],[],[(0,2,10)],[153]⟩ [((.exit 6),⟨[(0,Pz1)],[],[],[],[],[]⟩)] (.seq .leaf (.seq .leaf (.seq (.seq .leaf (.seq (.reg [(180,Y4)]) .leaf)) .leaf)))))))))))))
def F110V (a0:Tz1) (a1:El Y72):Option (Tz1):=Zau (mkE tyTab mapTab pkTab [] [] F110M 208 bdTab) (Zai Tryz.f46) Tryz.f46.results F110H F110A F110R (fun y=>y.1.1) (a0,a1,())
theorem F110_eq (a0:Tz1) (a1:El Y72):F110V a0 a1=F110 a0 a1:=by kernel_rfl
theorem F110_ok:ZaU Tryz.prog 46 F110S:=Zac (m:=F110M) (fn:=Tryz.f46) (hint:=F110H) (pack:=fun y=>y.1.1) Za2 tab_ok ⟨⟨F113_ok,trivial⟩,⟨F108_ok,trivial⟩,⟨F112_ok,trivial⟩,⟨F106_ok,trivial⟩,⟨F101_ok,trivial⟩,⟨F111_ok,trivial⟩,trivial⟩ fun x z h=>(F110_eq x.1 x.2.1).trans h
def F103: (El Y31)→(El Y33)→Option (Tz1×El Y69×El Y36):=fun a0 a1=>
 (F102 a0 a1).bind fun x0=>
 bif !decide (x0=(0:Int)) then none
 else
 (F7 a0 a1).bind fun x1=>
 (F32 x1.1).bind fun x2=>
 bif !decide (x2.2=(0:Int)) then none
 else
 (F113 (↑(List.length x1.1.2.2.1):Int)).bind fun x3=>
 Option.bind
 (Zap
 (decide
 ((0:El (Tr.Ty.int .i64))≤(↑(List.length x1.1.2.2.1):Int)∧
 (↑(List.length x1.1.2.2.1):Int)≤(↑(List.length x1.1.2.2.1):Int)∧
 (↑(List.length x1.1.2.2.1):Int)≤(↑Zaq:El (Tr.Ty.int .i64)))))
 fun _=>
 Option.bind
 (run
 (fun s5=>
 bif decide (s5.2< (↑(List.length x1.1.2.2.2.1):Int)) then
 (idx x1.1.2.2.2.1 s5.2).bind fun x6=>
 (inb x6.1 (List.length s5.1.2.2.2.2.2.2.1)).bind fun x7=>
 Option.bind s5.1.2.2.2.2.2.2.1[x7]? fun _=>
 (idx s5.1.2.2.2.2.2.2.1 (↑x7:Int)).bind fun x9=>
 Option.bind (Zap (decide (List.length x9+List.length [s5.2]≤Zaq))) fun _=>
 (inb x6.1 (List.length s5.1.2.2.2.2.2.2.1)).bind fun x11=>
 Option.bind (Zap (Zhx (some (Int.toNat (↑x7:Int))) x11)) fun _=>
 Option.bind s5.1.2.2.2.2.2.2.1[x11]? fun _=>
 some
 (.inl
 ((s5.1.1,s5.1.2.1,s5.1.2.2.1,s5.1.2.2.2.1,s5.1.2.2.2.2.1,s5.1.2.2.2.2.2.1,
 List.set s5.1.2.2.2.2.2.2.1 x11 (x9++[s5.2]),()),
 IntKind.wrap .i64 (s5.2+(1:Int))))
 else
 some
 (.inr
 s5.1))
 ((x1.1,[],[],x3,[],[],List.replicate (Int.toNat (↑(List.length x1.1.2.2.1):Int)) [],()),(0:Int)))
 fun x14=>
 Option.bind
 (run
 (fun s15=>
 bif decide (s15.2< (↑(List.length x1.1.1):Int)) then
 Option.bind
 (Zap (decide (List.length s15.1.2.2.1+List.length [((-1:Int),(-1:Int),(-1:Int),(-1:Int),(-1:Int),(-1:Int),())]≤Zaq)))
 fun _=>
 some
 (.inl
 ((s15.1.1,s15.1.2.1,s15.1.2.2.1++[((-1:Int),(-1:Int),(-1:Int),(-1:Int),(-1:Int),(-1:Int),())],s15.1.2.2.2.1,
 s15.1.2.2.2.2.1,s15.1.2.2.2.2.2.1,s15.1.2.2.2.2.2.2.1,()),
 IntKind.wrap .i64 (s15.2+(1:Int))))
 else
 some
 (.inr
 s15.1))
 (x14,(0:Int)))
 fun x17=>
 Option.bind
 (bif a1.2.2.2.2.2.2.2.2.2.1 then
 (idx x1.1.1 a1.1).bind fun x18=>
 some
 (x17,
 IntKind.wrap .i64 (a1.2.2.1+x18.2.2.2.1))
 else
 some
 (x17,a1.2.2.1))
 fun x19=>
 Option.bind
 (F108
 x19.1
 a1.1 a1.2.2.1 x19.2 (-1:Int))
 fun x20=>
 Option.bind
 (F112 x20
 a1.1 a1.2.2.1 (-1:Int))
 fun x21=>
 Option.bind
 (run
 (fun s22=>
 bif decide (s22.2.2<a1.2.2.2.2.1) then
 Option.bind
 (F110
 s22.1
 s22.1.2.2.1)
 fun x23=>
 Option.bind (Zap (decide (List.length s22.2.1+List.length [x23.2.2.1]≤Zaq))) fun _=>
 some
 (.inl
 (x23,
 s22.2.1++[x23.2.2.1],IntKind.wrap .i64 (s22.2.2+(1:Int))))
 else
 some
 (.inr
 (s22.1,
 s22.2.1)))
 (x21,
 [x21.2.2.1],(0:Int)))
 fun x25=>
 some
 (x25.1,
 x25.2,(0:Int))
abbrev F103A:Zam:=(.cons (.pd Y31) (.cons (.pd Y33) .nil))
abbrev F103R:Zam:=(.cons Pz3 (.cons (.pd Y69) (.cons (.pd Y36) .nil)))
def F103S:Tr.Spec:= {args:=F103A,res:=F103R,fns:=[],α:=Tz1×El Y69×El Y36,f:=fun x=>F103 x.1 x.2.1,unp:=fun z=>(((),(),()),(z.1,z.2.1,z.2.2,())) }
def F103M:List (Nat×List Tr.Spec):=[(40,[F102S]),(41,[F7S]),(42,[F32S]),(43,[F113S]),(44,[F108S]),(45,[F112S]),(46,[F110S])]
def F103H:ZaW:=(.seq .leaf (.seq .leaf (.seq .leaf (.seq .leaf (.seq .leaf (.seq (.seq .leaf (.lp ⟨[(12,Pz0),(51,(.pd Y3))],[],[3,8,49,50],[],[],[]⟩ [((.exit 0),⟨[(12,Pz0)],[],[3,8],[],[],[]⟩)] .leaf)) (.seq (.seq .leaf (.lp ⟨[(12,Pz0),(78,(.pd Y3))],[],[3,8,77],[],[],[]⟩ [((.exit 2),⟨[(12,Pz0)],[],[3,8],[],[],[]⟩)] .leaf)) (.seq .leaf (.seq (.seq .leaf (.cnd (some (⟨[],[],[3],[],[],[]⟩,[(.normal,⟨[(12,Pz0),(15,(.pd Y3))],[],[3],[],[],[]⟩)])) .leaf .leaf)) (.seq .leaf (.seq .leaf (.seq .leaf (.seq (.seq .leaf (.lp ⟨[(12,Pz3),(16,(.own Y72 false)),(124,(.pd Y3))],[],[123],[],[],[]⟩ [((.exit 4),⟨[(12,Pz3),(16,(.own Y72 false))],[],[],[],[],[]⟩)] .leaf)) .leaf)))))))))))))
def F103V (a0:El Y31) (a1:El Y33):Option (Tz1×El Y69×El Y36):=Zau (mkE tyTab mapTab pkTab [38] [99] F103M 142 bdTab) (Zai Tryz.f30) Tryz.f30.results F103H F103A F103R (fun y=>(y.2.1,y.2.2.1,y.2.2.2.1)) (a0,a1,())
theorem F103_eq (a0:El Y31) (a1:El Y33):F103V a0 a1=F103 a0 a1:=by kernel_rfl
theorem F103_ok:ZaU Tryz.prog 30 F103S:=Zac (m:=F103M) (fn:=Tryz.f30) (hint:=F103H) (pack:=fun y=>(y.2.1,y.2.2.1,y.2.2.2.1)) Za2 tab_ok ⟨⟨F102_ok,trivial⟩,⟨F7_ok,trivial⟩,⟨F32_ok,trivial⟩,⟨F113_ok,trivial⟩,⟨F108_ok,trivial⟩,⟨F112_ok,trivial⟩,⟨F110_ok,trivial⟩,trivial⟩ fun x z h=>(F103_eq x.1 x.2.1).trans h
def F104: (El Y31)→(El Y33)→Option (Unit×El Y69×El Y36):=fun a0 a1=>
 (F102 a0 a1).bind fun x0=>
 bif !decide (x0=(0:Int)) then some ((),[],x0)
 else
 (F7 a0 a1).bind fun x1=>
 (F32 x1.1).bind fun x2=>
 bif !decide (x2.2=(0:Int)) then some ((),[],x2.2)
 else
 (F113 (↑(List.length x1.1.2.2.1):Int)).bind fun x3=>
 Option.bind
 (Zap
 (decide
 ((0:El (Tr.Ty.int .i64))≤(↑(List.length x1.1.2.2.1):Int)∧
 (↑(List.length x1.1.2.2.1):Int)≤(↑(List.length x1.1.2.2.1):Int)∧
 (↑(List.length x1.1.2.2.1):Int)≤(↑Zaq:El (Tr.Ty.int .i64)))))
 fun _=>
 Option.bind
 (run
 (fun s5=>
 bif decide (s5.2< (↑(List.length x1.1.2.2.2.1):Int)) then
 (idx x1.1.2.2.2.1 s5.2).bind fun x6=>
 (inb x6.1 (List.length s5.1.2.2.2.2.2.2.1)).bind fun x7=>
 Option.bind s5.1.2.2.2.2.2.2.1[x7]? fun _=>
 (idx s5.1.2.2.2.2.2.2.1 (↑x7:Int)).bind fun x9=>
 Option.bind (Zap (decide (List.length x9+List.length [s5.2]≤Zaq))) fun _=>
 (inb x6.1 (List.length s5.1.2.2.2.2.2.2.1)).bind fun x11=>
 Option.bind (Zap (Zhx (some (Int.toNat (↑x7:Int))) x11)) fun _=>
 Option.bind s5.1.2.2.2.2.2.2.1[x11]? fun _=>
 some
 (.inl
 ((s5.1.1,s5.1.2.1,s5.1.2.2.1,s5.1.2.2.2.1,s5.1.2.2.2.2.1,s5.1.2.2.2.2.2.1,
 List.set s5.1.2.2.2.2.2.2.1 x11 (x9++[s5.2]),()),
 IntKind.wrap .i64 (s5.2+(1:Int))))
 else
 some
 (.inr
 s5.1))
 ((x1.1,[],[],x3,[],[],List.replicate (Int.toNat (↑(List.length x1.1.2.2.1):Int)) [],()),(0:Int)))
 fun x14=>
 Option.bind
 (run
 (fun s15=>
 bif decide (s15.2< (↑(List.length x1.1.1):Int)) then
 Option.bind
 (Zap (decide (List.length s15.1.2.2.1+List.length [((-1:Int),(-1:Int),(-1:Int),(-1:Int),(-1:Int),(-1:Int),())]≤Zaq)))
 fun _=>
 some
 (.inl
 ((s15.1.1,s15.1.2.1,s15.1.2.2.1++[((-1:Int),(-1:Int),(-1:Int),(-1:Int),(-1:Int),(-1:Int),())],s15.1.2.2.2.1,
 s15.1.2.2.2.2.1,s15.1.2.2.2.2.2.1,s15.1.2.2.2.2.2.2.1,()),
 IntKind.wrap .i64 (s15.2+(1:Int))))
 else
 some
 (.inr
 s15.1))
 (x14,(0:Int)))
 fun x17=>
 Option.bind
 (bif a1.2.2.2.2.2.2.2.2.2.1 then
 (idx x1.1.1 a1.1).bind fun x18=>
 some
 (x17,
 IntKind.wrap .i64 (a1.2.2.1+x18.2.2.2.1))
 else
 some
 (x17,a1.2.2.1))
 fun x19=>
 Option.bind
 (F108
 x19.1
 a1.1 a1.2.2.1 x19.2 (-1:Int))
 fun x20=>
 Option.bind
 (F112 x20
 a1.1 a1.2.2.1 (-1:Int))
 fun x21=>
 Option.bind
 (run
 (fun s22=>
 bif decide (s22.2.2<a1.2.2.2.2.1) then
 Option.bind
 (F110
 s22.1
 s22.1.2.2.1)
 fun x23=>
 Option.bind (Zap (decide (List.length s22.2.1+List.length [x23.2.2.1]≤Zaq))) fun _=>
 some
 (.inl
 (x23,
 s22.2.1++[x23.2.2.1],IntKind.wrap .i64 (s22.2.2+(1:Int))))
 else
 some
 (.inr
 (s22.1,
 s22.2.1)))
 (x21,
 [x21.2.2.1],(0:Int)))
 fun _=>none
abbrev F104A:Zam:=(.cons (.pd Y31) (.cons (.pd Y33) .nil))
abbrev F104R:Zam:=(.cons .nilr (.cons (.pd Y69) (.cons (.pd Y36) .nil)))
def F104S:Tr.Spec:= {args:=F104A,res:=F104R,fns:=[],α:=Unit×El Y69×El Y36,f:=fun x=>F104 x.1 x.2.1,unp:=fun z=>(((),(),()),(z.1,z.2.1,z.2.2,())) }
def F104M:List (Nat×List Tr.Spec):=[(40,[F102S]),(41,[F7S]),(42,[F32S]),(43,[F113S]),(44,[F108S]),(45,[F112S]),(46,[F110S])]
def F104H:ZaW:=(.seq .leaf (.seq .leaf (.seq .leaf (.seq .leaf (.seq .leaf (.seq (.seq .leaf (.lp ⟨[(12,Pz0),(51,(.pd Y3))],[],[3,8,49,50],[],[],[]⟩ [((.exit 0),⟨[(12,Pz0)],[],[3,8],[],[],[]⟩)] .leaf)) (.seq (.seq .leaf (.lp ⟨[(12,Pz0),(78,(.pd Y3))],[],[3,8,77],[],[],[]⟩ [((.exit 2),⟨[(12,Pz0)],[],[3,8],[],[],[]⟩)] .leaf)) (.seq .leaf (.seq (.seq .leaf (.cnd (some (⟨[],[],[3],[],[],[]⟩,[(.normal,⟨[(12,Pz0),(15,(.pd Y3))],[],[3],[],[],[]⟩)])) .leaf .leaf)) (.seq .leaf (.seq .leaf (.seq .leaf (.seq (.seq .leaf (.lp ⟨[(12,Pz3),(16,(.own Y72 false)),(124,(.pd Y3))],[],[123],[],[],[]⟩ [((.exit 4),⟨[(12,Pz3),(16,(.own Y72 false))],[],[],[],[],[]⟩)] .leaf)) .leaf)))))))))))))
def F104V (a0:El Y31) (a1:El Y33):Option (Unit×El Y69×El Y36):=Zau (mkE tyTab mapTab pkTab [38] [99] F104M 142 bdTab) (Zai Tryz.f30) Tryz.f30.results F104H F104A F104R (fun y=>(y.2.1,y.2.2.1,y.2.2.2.1)) (a0,a1,())
theorem F104_eq (a0:El Y31) (a1:El Y33):F104V a0 a1=F104 a0 a1:=by kernel_rfl
theorem F104_ok:ZaU Tryz.prog 30 F104S:=Zac (m:=F104M) (fn:=Tryz.f30) (hint:=F104H) (pack:=fun y=>(y.2.1,y.2.2.1,y.2.2.2.1)) Za2 tab_ok ⟨⟨F102_ok,trivial⟩,⟨F7_ok,trivial⟩,⟨F32_ok,trivial⟩,⟨F113_ok,trivial⟩,⟨F108_ok,trivial⟩,⟨F112_ok,trivial⟩,⟨F110_ok,trivial⟩,trivial⟩ fun x z h=>(F104_eq x.1 x.2.1).trans h
def F98: (El Y31)→(El Y33)→Option (El Y38×El Y36):=fun a0 a1=>
 bif Option.isSome (F103S.f (a0,a1,())) then
 (F103 a0 a1).bind fun x0=>
 Option.bind
 (run
 (fun s1=>
 bif decide (s1.2< (↑(List.length x0.2.1):Int)) then
 (idx x0.2.1 s1.2).bind fun x2=>
 Option.bind
 (run
 (fun s3=>
 bif decide (s3.2.2< (↑(List.length x2):Int)) then
 (idx x2 s3.2.2).bind fun x4=>
 Option.bind (Zap (decide (List.length s3.2.1+List.length [x4.1]≤Zaq))) fun _=>
 some (.inl (s3.1,s3.2.1++[x4.1],IntKind.wrap .i64 (s3.2.2+(1:Int))))
 else some (.inr (s3.1,s3.2.1)))
 (s1.1,[],(0:Int)))
 fun x6=>
 Option.bind (Zap (decide (List.length x6.1+List.length [x6.2]≤Zaq))) fun _=>
 some (.inl (x6.1++[x6.2],IntKind.wrap .i64 (s1.2+(1:Int))))
 else some (.inr s1.1))
 ([],(0:Int)))
 fun x8=>some (x8,x0.2.2)
 else
 (F104 a0 a1).bind fun x9=>
 Option.bind
 (run
 (fun s10=>
 bif decide (s10.2< (↑(List.length x9.2.1):Int)) then
 (idx x9.2.1 s10.2).bind fun x11=>
 Option.bind
 (run
 (fun s12=>
 bif decide (s12.2.2< (↑(List.length x11):Int)) then
 (idx x11 s12.2.2).bind fun x13=>
 Option.bind (Zap (decide (List.length s12.2.1+List.length [x13.1]≤Zaq))) fun _=>
 some (.inl (s12.1,s12.2.1++[x13.1],IntKind.wrap .i64 (s12.2.2+(1:Int))))
 else some (.inr (s12.1,s12.2.1)))
 (s10.1,[],(0:Int)))
 fun x15=>
 Option.bind (Zap (decide (List.length x15.1+List.length [x15.2]≤Zaq))) fun _=>
 some (.inl (x15.1++[x15.2],IntKind.wrap .i64 (s10.2+(1:Int))))
 else some (.inr s10.1))
 ([],(0:Int)))
 fun x17=>some (x17,x9.2.2)
abbrev F98A:Zam:=(.cons (.pd Y31) (.cons (.pd Y33) .nil))
abbrev F98R:Zam:=(.cons (.pd Y38) (.cons (.pd Y36) .nil))
def F98S:Tr.Spec:= {args:=F98A,res:=F98R,fns:=[],α:=El Y38×El Y36,f:=fun x=>F98 x.1 x.2.1,unp:=fun z=>(((),(),()),(z.1,z.2,())) }
def F98M:List (Nat×List Tr.Spec):=[(30,[F103S,F104S])]
def F98H:ZaW:=(.seq .leaf (.seq .leaf (.seq .leaf (.seq (.seq .leaf (.lp ⟨[(9,(.own Y52 false)),(24,(.pd Y3))],[],[8,22,23],[],[],[]⟩ [((.exit 0),⟨[(9,(.own Y52 false))],[],[8],[],[],[]⟩)] (.seq .leaf (.seq .leaf (.seq (.seq .leaf (.seq .leaf (.seq (.seq .leaf (.lp ⟨[(9,(.own Y52 false)),(12,(.own Y3 false)),(30,(.pd Y3))],[],[8,22,23,24,28,29],[],[],[]⟩ [((.exit 2),⟨[(9,(.own Y52 false)),(12,(.own Y3 false))],[],[8,22,23,24],[],[],[]⟩)] .leaf)) .leaf))) .leaf))))) .leaf))))
def F98V (a0:El Y31) (a1:El Y33):Option (El Y38×El Y36):=Zau (mkE tyTab mapTab pkTab [] [] F98M 47 bdTab) (Zai Tryz.f14) Tryz.f14.results F98H F98A F98R (fun y=>(y.2.1,y.2.2.1)) (a0,a1,())
theorem F98_eq (a0:El Y31) (a1:El Y33):F98V a0 a1=F98 a0 a1:=by kernel_rfl
theorem F98_ok:ZaU Tryz.prog 14 F98S:=Zac (m:=F98M) (fn:=Tryz.f14) (hint:=F98H) (pack:=fun y=>(y.2.1,y.2.2.1)) Za2 tab_ok ⟨⟨F103_ok,F104_ok,trivial⟩,trivial⟩ fun x z h=>(F98_eq x.1 x.2.1).trans h
def F109: (Tz1)→(El Y3)→Option (Tz1×El Y43):=fun a0 a1=>
 Option.bind
 (run
 (fun s0=>
 bif !decide (s0.2.1=(-1:Int)) then
 (inb s0.2.1 (List.length s0.1.2.1)).bind fun x1=>
 Option.bind s0.1.2.1[x1]? fun x2=>
 Option.bind (Zap (decide (List.length s0.2.2+List.length [x2.1]≤Zaq))) fun _=>
 (inb s0.2.1 (List.length s0.1.2.1)).bind fun x4=>
 Option.bind s0.1.2.1[x4]? fun x5=>
 some
 (.inl
 (s0.1,
 x5.2.1,s0.2.2++[x2.1]))
 else
 some
 (.inr
 (s0.1,
 s0.2.2)))
 (a0,a1,[]))
 fun x6=>
 Option.bind
 (Zap
 (decide
 ((0:El (Tr.Ty.int .i64))≤(↑(List.length x6.2):Int)∧
 (↑(List.length x6.2):Int)≤(↑(List.length x6.2):Int)∧(↑(List.length x6.2):Int)≤(↑Zaq:El (Tr.Ty.int .i64)))))
 fun _=>
 Option.bind
 (run
 (fun s8=>
 bif decide (s8.2.2.2< (↑(List.length x6.2):Int)) then
 (inb s8.2.2.2 (List.length s8.2.1)).bind fun x9=>
 Option.bind s8.2.1[x9]? fun x10=>
 Option.bind (inb (IntKind.wrap .i64 (IntKind.wrap .i64 ((↑(List.length s8.2.1):Int) - (1:Int)) - s8.2.2.2)) (List.length s8.2.2.1))
 fun x11=>
 Option.bind s8.2.2.1[x11]? fun _=>
 some
 (.inl
 (s8.1,
 s8.2.1,List.set s8.2.2.1 x11 x10,IntKind.wrap .i64 (s8.2.2.2+(1:Int))))
 else
 some
 (.inr
 (s8.1,
 s8.2.2.1)))
 (x6.1,x6.2,
 List.replicate (Int.toNat (↑(List.length x6.2):Int)) ((false,(0:Int),(0:Int),(0:Int),(0:Int),(0:Int),(0:Int),(0:Int),false,())),(0:Int)))
 fun x13=>
 Option.bind
 (bif decide ((1:Int)< (↑(List.length x13.2):Int)) then
 (inb (0:Int) (List.length x13.2)).bind fun x14=>Option.bind x13.2[x14]? fun x15=>some !x15.1
 else some false)
 fun x16=>
 bif x16 then
 (inb (0:Int) (List.length x13.2)).bind fun x17=>
 (inb (1:Int) (List.length x13.2)).bind fun x18=>
 Option.bind x13.2[x18]? fun x19=>
 Option.bind x13.2[x17]? fun x20=>
 Option.bind x13.2[x17]? fun x21=>
 (inb (1:Int) (List.length x13.2)).bind fun x22=>
 Option.bind x13.2[x22]? fun x23=>
 Option.bind x13.2[x17]? fun x24=>
 Option.bind
 (List.set x13.2 x17
 (x24.1,x24.2.1,x24.2.2.1,x24.2.2.2.1,x24.2.2.2.2.1,x24.2.2.2.2.2.1,
 IntKind.wrap .i64
 (x19.2.2.2.2.2.2.1 - IntKind.wrap .i64 (x20.2.2.2.2.2.2.2.1 - x21.2.2.2.2.2.2.1)),
 x24.2.2.2.2.2.2.2))[x17]?
 fun x25=>
 some
 (x13.1,
 List.set
 (List.set x13.2 x17
 (x24.1,x24.2.1,x24.2.2.1,x24.2.2.2.1,x24.2.2.2.2.1,x24.2.2.2.2.2.1,
 IntKind.wrap .i64
 (x19.2.2.2.2.2.2.1 - IntKind.wrap .i64 (x20.2.2.2.2.2.2.2.1 - x21.2.2.2.2.2.2.1)),
 x24.2.2.2.2.2.2.2))
 x17
 (x25.1,x25.2.1,x25.2.2.1,x25.2.2.2.1,x25.2.2.2.2.1,x25.2.2.2.2.2.1,x25.2.2.2.2.2.2.1,
 x23.2.2.2.2.2.2.1,x25.2.2.2.2.2.2.2.2),
 ())
 else
 some
 (x13.1,
 x13.2,())
abbrev F109A:Zam:=(.cons Pz3 (.cons (.pd Y3) .nil))
abbrev F109R:Zam:=(.cons (.pd Y43) .nil)
def F109S:Tr.Spec:= {args:=F109A,res:=F109R,fns:=[],α:=Tz1×El Y43,f:=fun x=>F109 x.1 x.2.1,unp:=fun z=>((z.1,(),()),(z.2,())) }
def F109M:List (Nat×List Tr.Spec):=[]
def F109H:ZaW:=(.seq .leaf (.seq .leaf (.seq (.lp ⟨[(0,Pz3),(1,(.pd Y3)),(5,(.own Y66 false))],[],[4],[],[],[]⟩ [((.exit 0),⟨[(0,Pz3),(5,(.own Y66 false))],[],[4],[],[],[]⟩)] .leaf) (.seq .leaf (.seq (.seq .leaf (.lp ⟨[(0,Pz3),(5,(.own Y66 false)),(6,(.own Y66 false)),(35,(.pd Y3))],[],[4,34],[],[],[]⟩ [((.exit 2),⟨[(0,Pz3),(6,(.own Y66 false))],[],[4],[],[],[]⟩)] .leaf)) (.seq (.seq (.reg [(59,Y4)]) .leaf) .leaf))))))
def F109V (a0:Tz1) (a1:El Y3):Option (Tz1×El Y43):=Zau (mkE tyTab mapTab pkTab [] [] F109M 88 bdTab) (Zai Tryz.f31) Tryz.f31.results F109H F109A F109R (fun y=>(y.1.1,y.2.1)) (a0,a1,())
theorem F109_eq (a0:Tz1) (a1:El Y3):F109V a0 a1=F109 a0 a1:=by kernel_rfl
theorem F109_ok:ZaU Tryz.prog 31 F109S:=Zac (m:=F109M) (fn:=Tryz.f31) (hint:=F109H) (pack:=fun y=>(y.1.1,y.2.1)) Za2 tab_ok trivial fun x z h=>(F109_eq x.1 x.2.1).trans h
def F99: (El Y31)→(El Y33)→Option (El Y43×El Y36):=fun a0 a1=>
 bif Option.isSome (F103S.f (a0,a1,())) then
 (F103 a0 a1).bind fun x0=>
 bif !decide (x0.2.2=(0:Int)) then some ((([]:List (El Y66)),()),x0.2.2)
 else
 (idx x0.2.1 (IntKind.wrap .i64 ((↑(List.length x0.2.1):Int) - (1:Int)))).bind fun x1=>
 (idx x1 a1.2.1).bind fun x2=>
 bif decide (x2.1=(-1:Int)) then some ((([]:List (El Y66)),()),(23:Int))
 else
 Option.bind
 (run
 (fun s3=>
 (idx x0.2.1 s3.2).bind fun x4=>
 (idx x4 a1.2.1).bind fun x5=>
 bif !decide (x5.1=x2.1) then
 some
 (.inl
 (s3.1,
 IntKind.wrap .i64 (s3.2+(1:Int))))
 else
 some
 (.inr
 (s3.1,
 s3.2)))
 (x0.1,
 (0:Int)))
 fun x6=>
 (idx x0.2.1 x6.2).bind fun x7=>
 (idx x7 a1.2.1).bind fun x8=>
 Option.bind
 (F109
 x6.1
 x8.2.2.2.1)
 fun x9=>some (x9.2,(0:Int))
 else
 (F104 a0 a1).bind fun x10=>
 bif !decide (x10.2.2=(0:Int)) then some ((([]:List (El Y66)),()),x10.2.2)
 else
 (idx x10.2.1 (IntKind.wrap .i64 ((↑(List.length x10.2.1):Int) - (1:Int)))).bind fun x11=>
 (idx x11 a1.2.1).bind fun x12=>bif decide (x12.1=(-1:Int)) then some ((([]:List (El Y66)),()),(23:Int)) else none
abbrev F99A:Zam:=(.cons (.pd Y31) (.cons (.pd Y33) .nil))
abbrev F99R:Zam:=(.cons (.pd Y43) (.cons (.pd Y36) .nil))
def F99S:Tr.Spec:= {args:=F99A,res:=F99R,fns:=[],α:=El Y43×El Y36,f:=fun x=>F99 x.1 x.2.1,unp:=fun z=>(((),(),()),(z.1,z.2,())) }
def F99M:List (Nat×List Tr.Spec):=[(30,[F103S,F104S]),(31,[F109S])]
def F99H:ZaW:=(.seq .leaf (.seq .leaf (.seq .leaf (.seq .leaf (.seq .leaf (.seq .leaf (.seq (.lp ⟨[(6,Pz3),(10,(.pd Y3))],[],[3,4,7,9],[],[],[]⟩ [((.exit 0),⟨[(6,Pz3),(10,(.pd Y3))],[],[3,4,7],[],[],[]⟩)] .leaf) .leaf)))))))
def F99V (a0:El Y31) (a1:El Y33):Option (El Y43×El Y36):=Zau (mkE tyTab mapTab pkTab [] [] F99M 60 bdTab) (Zai Tryz.f15) Tryz.f15.results F99H F99A F99R (fun y=>(y.2.1,y.2.2.1)) (a0,a1,())
theorem F99_eq (a0:El Y31) (a1:El Y33):F99V a0 a1=F99 a0 a1:=by kernel_rfl
theorem F99_ok:ZaU Tryz.prog 15 F99S:=Zac (m:=F99M) (fn:=Tryz.f15) (hint:=F99H) (pack:=fun y=>(y.2.1,y.2.2.1)) Za2 tab_ok ⟨⟨F103_ok,F104_ok,trivial⟩,⟨F109_ok,trivial⟩,trivial⟩ fun x z h=>(F99_eq x.1 x.2.1).trans h
def F100: (El Y31)→(El Y33)→(El Y3)→Option (El Y3×El Y4):=fun a0 a1 a2=>
 (F98 a0 a1).bind fun x0=>
 bif !decide (x0.2=(0:Int)) then some ((0:Int),false)
 else
 Option.bind
 (run
 (fun s1=>
 bif decide (s1< (↑(List.length x0.1):Int)) then
 (idx x0.1 s1).bind fun x2=>
 (idx x2 a1.2.1).bind fun x3=>
 Option.bind (bif !decide (x3=(-1:Int)) then some (decide (x3≤a2)) else some false) fun x4=>
 bif x4 then some (.inr (.inr (s1,true))) else some (.inl (IntKind.wrap .i64 (s1+(1:Int))))
 else some (.inr (.inl ())))
 (0:Int))
 fun x5=>Sum.elim (fun _=>some ((0:Int),false)) (fun y7=>some (y7.1,y7.2)) x5
abbrev F100A:Zam:=(.cons (.pd Y31) (.cons (.pd Y33) (.cons (.pd Y3) .nil)))
abbrev F100R:Zam:=(.cons (.pd Y3) (.cons (.pd Y4) .nil))
def F100S:Tr.Spec:= {args:=F100A,res:=F100R,fns:=[],α:=El Y3×El Y4,f:=fun x=>F100 x.1 x.2.1 x.2.2.1,unp:=fun z=>(((),(),(),()),(z.1,z.2,())) }
def F100M:List (Nat×List Tr.Spec):=[(14,[F98S])]
def F100H:ZaW:=(.seq .leaf (.seq .leaf (.seq .leaf (.seq (.seq .leaf (.lp ⟨[(22,(.pd Y3))],[],[2,4,8,21],[],[],[]⟩ [((.exit 0),⟨[],[],[],[],[],[]⟩),(.ret,⟨[(6,(.pd Y3)),(7,(.pd Y4))],[],[],[],[],[]⟩)] (.seq .leaf (.seq .leaf (.seq (.seq .leaf (.seq .leaf (.seq (.reg [(39,Y4)]) .leaf))) .leaf))))) .leaf))))
def F100V (a0:El Y31) (a1:El Y33) (a2:El Y3):Option (El Y3×El Y4):=Zau (mkE tyTab mapTab pkTab [] [] F100M 42 bdTab) (Zai Tryz.f16) Tryz.f16.results F100H F100A F100R (fun y=>(y.2.1,y.2.2.1)) (a0,a1,a2,())
theorem F100_eq (a0:El Y31) (a1:El Y33) (a2:El Y3):F100V a0 a1 a2=F100 a0 a1 a2:=by kernel_rfl
theorem F100_ok:ZaU Tryz.prog 16 F100S:=Zac (m:=F100M) (fn:=Tryz.f16) (hint:=F100H) (pack:=fun y=>(y.2.1,y.2.2.1)) Za2 tab_ok ⟨⟨F98_ok,trivial⟩,trivial⟩ fun x z h=>(F100_eq x.1 x.2.1 x.2.2.1).trans h
def F27: (El Y3)→(El Y3)→Option (El Y87):=fun a0 a1=>some (a0,a1,a1,true,true,())
abbrev F27A:Zam:=(.cons (.pd Y3) (.cons (.pd Y3) .nil))
abbrev F27R:Zam:=(.cons (.pd Y87) .nil)
def F27S:Tr.Spec:= {args:=F27A,res:=F27R,fns:=[],α:=El Y87,f:=fun x=>F27 x.1 x.2.1,unp:=fun z=>(((),(),()),(z,())) }
def F27M:List (Nat×List Tr.Spec):=[]
def F27H:ZaW:= .leaf
def F27V (a0:El Y3) (a1:El Y3):Option (El Y87):=Zau (mkE tyTab mapTab pkTab [] [] F27M 9 bdTab) (Zai Tryz.f37) Tryz.f37.results F27H F27A F27R (fun y=>y.2.1) (a0,a1,())
theorem F27_eq (a0:El Y3) (a1:El Y3):F27V a0 a1=F27 a0 a1:=by kernel_rfl
theorem F27_ok:ZaU Tryz.prog 37 F27S:=Zac (m:=F27M) (fn:=Tryz.f37) (hint:=F27H) (pack:=fun y=>y.2.1) Za2 tab_ok trivial fun x z h=>(F27_eq x.1 x.2.1).trans h
def F28:Option (El Y31):=(F27 (0:Int) (100:Int)).bind fun x0=>
 (F27 (1:Int) (200:Int)).bind fun x1=>
 (F27 (1:Int) (230:Int)).bind fun x2=>
 (F27 (2:Int) (300:Int)).bind fun x3=>
 (F27 (1:Int) (260:Int)).bind fun x4=>
 (F27 (2:Int) (400:Int)).bind fun x5=>
 some
 ([([(65:UInt8)],(0:Int),false,(60:Int),()),([(66:UInt8)],(0:Int),false,(60:Int),()),
 ([(67:UInt8)],(0:Int),false,(60:Int),())],
 [([(82:UInt8)],(0:Int),false,())],
 [((0:Int),(0:Int),(0:Int),[(114:UInt8),(48:UInt8)],(0:Int),false,false,[x0,x1],()),
 ((0:Int),(0:Int),(0:Int),[(114:UInt8),(49:UInt8)],(0:Int),false,false,[x2,x3],()),
 ((0:Int),(0:Int),(0:Int),[(114:UInt8),(50:UInt8)],(0:Int),false,false,[x4,x5],())],
 ([]:List (El Y63)),[((0:Int),(1:Int),(500:Int),false,())],(([]:List (El Zpb)),(0:Int),(0:Int),(0:Int),()),())
abbrev F28A:Zam:= .nil
abbrev F28R:Zam:=(.cons (.pd Y31) .nil)
def F28S:Tr.Spec:= {args:=F28A,res:=F28R,fns:=[],α:=El Y31,f:=fun _=>F28,unp:=fun z=>((),(z,())) }
def F28M:List (Nat×List Tr.Spec):=[(37,[F27S])]
def F28H:ZaW:= .leaf
def F28V:Option (El Y31):=Zau (mkE tyTab mapTab pkTab [] [] F28M 27 bdTab) (Zai Tryz.f26) Tryz.f26.results F28H F28A F28R (fun y=>y.2.1) (())
theorem F28_eq:F28V=F28:=by kernel_rfl
theorem F28_ok:ZaU Tryz.prog 26 F28S:=Zac (m:=F28M) (fn:=Tryz.f26) (hint:=F28H) (pack:=fun y=>y.2.1) Za2 tab_ok ⟨⟨F27_ok,trivial⟩,trivial⟩ fun _ z h=>(F28_eq).trans h
def F30: (El Y52)→(El Y52)→Option (El Y4):=fun a0 a1=>
 bif !decide ((↑(List.length a0):Int)=(↑(List.length a1):Int)) then some false
 else
 Option.bind
 (run
 (fun s0=>
 bif decide (s0< (↑(List.length a0):Int)) then
 (idx a0 s0).bind fun x1=>
 (idx a1 s0).bind fun x2=>
 bif !decide (x1=x2) then some (.inr (.inr false)) else some (.inl (IntKind.wrap .i64 (s0+(1:Int))))
 else some (.inr (.inl ())))
 (0:Int))
 fun x3=>Sum.elim (fun _=>some true) (fun y5=>some y5) x3
abbrev F30A:Zam:=(.cons (.pd Y52) (.cons (.pd Y52) .nil))
abbrev F30R:Zam:=(.cons (.pd Y4) .nil)
def F30S:Tr.Spec:= {args:=F30A,res:=F30R,fns:=[],α:=El Y4,f:=fun x=>F30 x.1 x.2.1,unp:=fun z=>(((),(),()),(z,())) }
def F30M:List (Nat×List Tr.Spec):=[]
def F30H:ZaW:=(.seq .leaf (.seq .leaf (.seq (.seq .leaf (.lp ⟨[(5,(.pd Y3))],[],[0,1],[],[],[]⟩ [((.exit 0),⟨[],[],[],[],[],[]⟩),(.ret,⟨[(4,(.pd Y4))],[],[],[],[],[]⟩)] .leaf)) .leaf)))
def F30V (a0:El Y52) (a1:El Y52):Option (El Y4):=Zau (mkE tyTab mapTab pkTab [] [] F30M 26 bdTab) (Zai Tryz.f27) Tryz.f27.results F30H F30A F30R (fun y=>y.2.1) (a0,a1,())
theorem F30_eq (a0:El Y52) (a1:El Y52):F30V a0 a1=F30 a0 a1:=by kernel_rfl
theorem F30_ok:ZaU Tryz.prog 27 F30S:=Zac (m:=F30M) (fn:=Tryz.f27) (hint:=F30H) (pack:=fun y=>y.2.1) Za2 tab_ok trivial fun x z h=>(F30_eq x.1 x.2.1).trans h
def F29:Option (El Y4):=Option.bind F28 fun x0=>
 (F98 x0 ((0:Int),(2:Int),(0:Int),false,(2:Int),(0:Int),false,false,(0:Int),false,())).bind fun x1=>
 (F99 x0 ((0:Int),(2:Int),(0:Int),false,(2:Int),(0:Int),false,false,(0:Int),false,())).bind fun x2=>
 (F100 x0 ((0:Int),(2:Int),(0:Int),false,(2:Int),(0:Int),false,false,(0:Int),false,()) (400:Int)).bind fun x3=>
 (F100 x0 ((0:Int),(2:Int),(0:Int),false,(2:Int),(0:Int),false,false,(0:Int),false,()) (399:Int)).bind fun x4=>
 Option.bind F28 fun x5=>
 Option.bind
 (F98 (x5.1,x5.2.1,x5.2.2.1,[((0:Int),(1:Int),(1:Int),(0:Int),false,())],x5.2.2.2.2.1,x5.2.2.2.2.2.1,())
 ((0:Int),(2:Int),(0:Int),false,(2:Int),(0:Int),false,false,(0:Int),false,()))
 fun x6=>
 Option.bind
 (bif !decide ((↑(List.length x1.1):Int)=(3:Int)) then some true
 else bif !decide ((↑(List.length x6.1):Int)=(3:Int)) then some true else some !decide ((↑(List.length x2.1.1):Int)=(2:Int)))
 fun x7=>
 bif x7 then some false
 else
 bif decide (x1.2=(0:Int)) then
 (idx x1.1 (0:Int)).bind fun x8=>
 (F30 x8 [(0:Int),(500:Int),(-1:Int)]).bind fun x9=>
 bif x9 then
 (idx x1.1 (1:Int)).bind fun x10=>
 (F30 x10 [(0:Int),(200:Int),(-1:Int)]).bind fun x11=>
 bif x11 then
 (idx x1.1 (2:Int)).bind fun x12=>
 (F30 x12 [(0:Int),(200:Int),(400:Int)]).bind fun x13=>
 bif x13 then
 bif decide (x2.2=(0:Int)) then
 (idx x2.1.1 (0:Int)).bind fun x14=>
 bif decide (x14.2.1=(0:Int)) then
 (idx x2.1.1 (1:Int)).bind fun x15=>
 bif decide (x15.2.1=(2:Int)) then
 (idx x2.1.1 (1:Int)).bind fun x16=>
 bif decide (x16.2.2.2.2.2.2.2.1=(400:Int)) then
 bif decide (x3.1=(2:Int)) then
 bif x3.2 then
 bif !x4.2 then
 bif decide (x6.2=(0:Int)) then
 (idx x6.1 (2:Int)).bind fun x17=>
 (F30 x17 [(0:Int),(200:Int),(300:Int)]).bind fun x18=>some x18
 else some false
 else some false
 else some false
 else some false
 else some false
 else some false
 else some false
 else some false
 else some false
 else some false
 else some false
 else some false
abbrev F29A:Zam:= .nil
abbrev F29R:Zam:=(.cons (.pd Y4) .nil)
def F29S:Tr.Spec:= {args:=F29A,res:=F29R,fns:=[],α:=El Y4,f:=fun _=>F29,unp:=fun z=>((),(z,())) }
def F29M:List (Nat×List Tr.Spec):=[(14,[F98S]),(15,[F99S]),(16,[F100S]),(26,[F28S]),(27,[F30S])]
def F29H:ZaW:=(.seq .leaf (.seq .leaf (.seq .leaf (.seq .leaf (.seq .leaf (.seq .leaf (.seq .leaf (.seq .leaf (.seq .leaf (.seq (.seq (.reg [(63,Y4)]) .leaf) .leaf))))))))))
def F29V:Option (El Y4):=Zau (mkE tyTab mapTab pkTab [] [] F29M 137 bdTab) (Zai Tryz.f12) Tryz.f12.results F29H F29A F29R (fun y=>y.2.1) (())
theorem F29_eq:F29V=F29:=by kernel_rfl
theorem F29_ok:ZaU Tryz.prog 12 F29S:=Zac (m:=F29M) (fn:=Tryz.f12) (hint:=F29H) (pack:=fun y=>y.2.1) Za2 tab_ok ⟨⟨F98_ok,trivial⟩,⟨F99_ok,trivial⟩,⟨F100_ok,trivial⟩,⟨F28_ok,trivial⟩,⟨F30_ok,trivial⟩,trivial⟩ fun _ z h=>(F29_eq).trans h
def F64: (El Y9)→Option (El Y4):=fun a0=>
 Option.bind (bif decide ((↑(List.length a0):Int)< (1:Int)) then some true else some (decide ((32:Int)< (↑(List.length a0):Int)))) fun x0=>
 bif x0 then some false
 else
 Option.bind
 (run
 (fun s1=>
 bif decide (s1< (↑(List.length a0):Int)) then
 (idx a0 s1).bind fun x2=>
 Option.bind
 (bif decide ((97:Int)≤(↑(UInt8.toNat x2):Int)) then
 bif decide ((↑(UInt8.toNat x2):Int)≤(122:Int)) then some true
 else
 bif decide ((65:Int)≤(↑(UInt8.toNat x2):Int)) then
 bif decide ((↑(UInt8.toNat x2):Int)≤(90:Int)) then some true
 else bif decide ((48:Int)≤(↑(UInt8.toNat x2):Int)) then some (decide ((↑(UInt8.toNat x2):Int)≤(57:Int))) else some false
 else bif decide ((48:Int)≤(↑(UInt8.toNat x2):Int)) then some (decide ((↑(UInt8.toNat x2):Int)≤(57:Int))) else some false
 else
 bif decide ((65:Int)≤(↑(UInt8.toNat x2):Int)) then
 bif decide ((↑(UInt8.toNat x2):Int)≤(90:Int)) then some true
 else bif decide ((48:Int)≤(↑(UInt8.toNat x2):Int)) then some (decide ((↑(UInt8.toNat x2):Int)≤(57:Int))) else some false
 else bif decide ((48:Int)≤(↑(UInt8.toNat x2):Int)) then some (decide ((↑(UInt8.toNat x2):Int)≤(57:Int))) else some false)
 fun x3=>
 Option.bind
 (bif !x3 then
 bif !decide ((↑(UInt8.toNat x2):Int)=(45:Int)) then
 bif !decide ((↑(UInt8.toNat x2):Int)=(95:Int)) then some !decide ((↑(UInt8.toNat x2):Int)=(46:Int)) else some false
 else some false
 else some false)
 fun x4=>bif x4 then some (.inr (.inr false)) else some (.inl (IntKind.wrap .i64 (s1+(1:Int))))
 else some (.inr (.inl ())))
 (0:Int))
 fun x5=>Sum.elim (fun _=>some true) (fun y7=>some y7) x5
abbrev F64A:Zam:=(.cons (.pd Y9) .nil)
abbrev F64R:Zam:=(.cons (.pd Y4) .nil)
def F64S:Tr.Spec:= {args:=F64A,res:=F64R,fns:=[],α:=El Y4,f:=fun x=>F64 x.1,unp:=fun z=>(((),()),(z,())) }
def F64M:List (Nat×List Tr.Spec):=[]
def F64H:ZaW:=(.seq .leaf (.seq (.seq (.reg [(13,Y4)]) .leaf) (.seq (.seq .leaf (.lp ⟨[(3,(.pd Y3))],[],[0],[],[],[]⟩ [((.exit 0),⟨[],[],[],[],[],[]⟩),(.ret,⟨[(2,(.pd Y4))],[],[],[],[],[]⟩)] (.seq .leaf (.seq (.seq .leaf (.seq (.reg [(5,Y4)]) (.seq (.reg [(58,Y4)]) .leaf))) .leaf)))) .leaf)))
def F64V (a0:El Y9):Option (El Y4):=Zau (mkE tyTab mapTab pkTab [] [] F64M 59 bdTab) (Zai Tryz.f79) Tryz.f79.results F64H F64A F64R (fun y=>y.2.1) (a0,())
theorem F64_eq (a0:El Y9):F64V a0=F64 a0:=by kernel_rfl
theorem F64_ok:ZaU Tryz.prog 79 F64S:=Zac (m:=F64M) (fn:=Tryz.f79) (hint:=F64H) (pack:=fun y=>y.2.1) Za2 tab_ok trivial fun x z h=>(F64_eq x.1).trans h
def F65: (El Y3)→(El Y3)→(El Y3)→Option (El Y4):=fun a0 a1 a2=>Option.bind (bif decide (a1≤a0) then some (decide (a0≤a2)) else some false) fun x0=>some x0
abbrev F65A:Zam:=(.cons (.pd Y3) (.cons (.pd Y3) (.cons (.pd Y3) .nil)))
abbrev F65R:Zam:=(.cons (.pd Y4) .nil)
def F65S:Tr.Spec:= {args:=F65A,res:=F65R,fns:=[],α:=El Y4,f:=fun x=>F65 x.1 x.2.1 x.2.2.1,unp:=fun z=>(((),(),(),()),(z,())) }
def F65M:List (Nat×List Tr.Spec):=[]
def F65H:ZaW:=(.seq .leaf (.seq (.reg [(6,Y4)]) .leaf))
def F65V (a0:El Y3) (a1:El Y3) (a2:El Y3):Option (El Y4):=Zau (mkE tyTab mapTab pkTab [] [] F65M 15 bdTab) (Zai Tryz.f80) Tryz.f80.results F65H F65A F65R (fun y=>y.2.1) (a0,a1,a2,())
theorem F65_eq (a0:El Y3) (a1:El Y3) (a2:El Y3):F65V a0 a1 a2=F65 a0 a1 a2:=by kernel_rfl
theorem F65_ok:ZaU Tryz.prog 80 F65S:=Zac (m:=F65M) (fn:=Tryz.f80) (hint:=F65H) (pack:=fun y=>y.2.1) Za2 tab_ok trivial fun x z h=>(F65_eq x.1 x.2.1 x.2.2.1).trans h
def F71: (El Y22)→Option (El Y3×El Y36):=fun a0=>
 bif decide ((64:Int)< (↑(List.length a0):Int)) then some ((0:Int),(5:Int))
 else
 Option.bind
 (run
 (fun s0=>
 bif decide (s0< (↑(List.length a0):Int)) then
 (idx a0 s0).bind fun x1=>
 (F64 x1.1).bind fun x2=>
 bif !x2 then some (.inr (.inr (s0,(12:Int))))
 else
 Option.bind
 (run
 (fun s3=>
 bif decide (s3<s0) then
 (idx a0 s3).bind fun x4=>
 (idx a0 s0).bind fun x5=>
 bif decide (x4.1=x5.1) then some (.inr (.inr (s0,(6:Int)))) else some (.inl (IntKind.wrap .i64 (s3+(1:Int))))
 else some (.inr (.inl ())))
 (0:Int))
 fun x6=>
 Sum.elim
 (fun _=>
 Option.bind
 ((idx a0 s0).bind fun x8=>
 (F65 x8.2.1 (0:Int) (15:Int)).bind fun x9=>
 bif !x9 then some true
 else (idx a0 s0).bind fun x10=>(F65 x10.2.2.2.1 (0:Int) (3600:Int)).bind fun x11=>some !x11)
 fun x12=>bif x12 then some (.inr (.inr (s0,(2:Int)))) else some (.inl (IntKind.wrap .i64 (s0+(1:Int)))))
 (fun y13=>some (.inr (.inr (y13.1,y13.2)))) x6
 else some (.inr (.inl ())))
 (0:Int))
 fun x14=>Sum.elim (fun _=>some ((0:Int),(0:Int))) (fun y16=>some (y16.1,y16.2)) x14
abbrev F71A:Zam:=(.cons (.pd Y22) .nil)
abbrev F71R:Zam:=(.cons (.pd Y3) (.cons (.pd Y36) .nil))
def F71S:Tr.Spec:= {args:=F71A,res:=F71R,fns:=[],α:=El Y3×El Y36,f:=fun x=>F71 x.1,unp:=fun z=>(((),()),(z.1,z.2,())) }
def F71M:List (Nat×List Tr.Spec):=[(79,[F64S]),(80,[F65S])]
def F71H:ZaW:=(.seq .leaf (.seq .leaf (.seq (.seq .leaf (.lp ⟨[(4,(.pd Y3))],[],[0],[],[],[]⟩ [((.exit 0),⟨[],[],[],[],[],[]⟩),(.ret,⟨[(2,(.pd Y3)),(3,(.pd Y36))],[],[],[],[],[]⟩)] (.seq .leaf (.seq (.seq .leaf (.seq (.seq .leaf (.lp ⟨[(5,(.pd Y3))],[],[0,4],[],[],[]⟩ [((.exit 2),⟨[],[],[0,4],[],[],[]⟩),(.ret,⟨[(2,(.pd Y3)),(3,(.pd Y36))],[],[],[],[],[]⟩)] .leaf)) (.seq (.reg [(55,Y4)]) .leaf))) .leaf)))) .leaf)))
def F71V (a0:El Y22):Option (El Y3×El Y36):=Zau (mkE tyTab mapTab pkTab [] [] F71M 57 bdTab) (Zai Tryz.f53) Tryz.f53.results F71H F71A F71R (fun y=>(y.2.1,y.2.2.1)) (a0,())
theorem F71_eq (a0:El Y22):F71V a0=F71 a0:=by kernel_rfl
theorem F71_ok:ZaU Tryz.prog 53 F71S:=Zac (m:=F71M) (fn:=Tryz.f53) (hint:=F71H) (pack:=fun y=>(y.2.1,y.2.2.1)) Za2 tab_ok ⟨⟨F64_ok,trivial⟩,⟨F65_ok,trivial⟩,trivial⟩ fun x z h=>(F71_eq x.1).trans h
def F69: (El Y23)→Option (El Y3×El Y36):=fun a0=>
 bif decide ((64:Int)< (↑(List.length a0):Int)) then some ((0:Int),(5:Int))
 else
 Option.bind
 (run
 (fun s0=>
 bif decide (s0< (↑(List.length a0):Int)) then
 (idx a0 s0).bind fun x1=>
 (F64 x1.1).bind fun x2=>
 bif !x2 then some (.inr (.inr (s0,(12:Int))))
 else
 Option.bind
 (run
 (fun s3=>
 bif decide (s3<s0) then
 (idx a0 s3).bind fun x4=>
 (idx a0 s0).bind fun x5=>
 bif decide (x4.1=x5.1) then some (.inr (.inr (s0,(6:Int)))) else some (.inl (IntKind.wrap .i64 (s3+(1:Int))))
 else some (.inr (.inl ())))
 (0:Int))
 fun x6=>
 Sum.elim
 (fun _=>
 (idx a0 s0).bind fun x8=>
 (F65 x8.2.1 (0:Int) (7:Int)).bind fun x9=>
 bif !x9 then some (.inr (.inr (s0,(2:Int)))) else some (.inl (IntKind.wrap .i64 (s0+(1:Int)))))
 (fun y10=>some (.inr (.inr (y10.1,y10.2)))) x6
 else some (.inr (.inl ())))
 (0:Int))
 fun x11=>Sum.elim (fun _=>some ((0:Int),(0:Int))) (fun y13=>some (y13.1,y13.2)) x11
abbrev F69A:Zam:=(.cons (.pd Y23) .nil)
abbrev F69R:Zam:=(.cons (.pd Y3) (.cons (.pd Y36) .nil))
def F69S:Tr.Spec:= {args:=F69A,res:=F69R,fns:=[],α:=El Y3×El Y36,f:=fun x=>F69 x.1,unp:=fun z=>(((),()),(z.1,z.2,())) }
def F69M:List (Nat×List Tr.Spec):=[(79,[F64S]),(80,[F65S])]
def F69H:ZaW:=(.seq .leaf (.seq .leaf (.seq (.seq .leaf (.lp ⟨[(4,(.pd Y3))],[],[0],[],[],[]⟩ [((.exit 0),⟨[],[],[],[],[],[]⟩),(.ret,⟨[(2,(.pd Y3)),(3,(.pd Y36))],[],[],[],[],[]⟩)] (.seq .leaf (.seq (.seq .leaf (.seq (.seq .leaf (.lp ⟨[(5,(.pd Y3))],[],[0,4],[],[],[]⟩ [((.exit 2),⟨[],[],[0,4],[],[],[]⟩),(.ret,⟨[(2,(.pd Y3)),(3,(.pd Y36))],[],[],[],[],[]⟩)] .leaf)) .leaf)) .leaf)))) .leaf)))
def F69V (a0:El Y23):Option (El Y3×El Y36):=Zau (mkE tyTab mapTab pkTab [] [] F69M 48 bdTab) (Zai Tryz.f54) Tryz.f54.results F69H F69A F69R (fun y=>(y.2.1,y.2.2.1)) (a0,())
theorem F69_eq (a0:El Y23):F69V a0=F69 a0:=by kernel_rfl
theorem F69_ok:ZaU Tryz.prog 54 F69S:=Zac (m:=F69M) (fn:=Tryz.f54) (hint:=F69H) (pack:=fun y=>(y.2.1,y.2.2.1)) Za2 tab_ok ⟨⟨F64_ok,trivial⟩,⟨F65_ok,trivial⟩,trivial⟩ fun x z h=>(F69_eq x.1).trans h
def F57: (El Y58)→(El Y3)→(El Y3)→(El Y3)→Option (El Y36):=fun a0 a1 a2 a3=>
 Option.bind (bif decide ((↑(List.length a0):Int)< (2:Int)) then some true else some (decide ((32:Int)< (↑(List.length a0):Int)))) fun x0=>
 bif x0 then some (5:Int)
 else
 Option.bind
 (run
 (fun s1=>
 bif decide (s1< (↑(List.length a0):Int)) then
 (idx a0 s1).bind fun x2=>
 Option.bind (bif decide (x2.1< (0:Int)) then some true else some (decide (a1≤x2.1))) fun x3=>
 bif x3 then some (.inr (.inr (9:Int)))
 else
 Option.bind
 (bif decide ((0:Int)<s1) then (idx a0 (IntKind.wrap .i64 (s1 - (1:Int)))).bind fun x4=>some (decide (x4.1=x2.1))
 else some false)
 fun x5=>
 bif x5 then some (.inr (.inr (13:Int)))
 else
 Option.bind
 (bif decide (x2.2.1<a2) then some true
 else
 bif decide (x2.2.2.1<x2.2.1) then some true
 else
 bif decide (a3<x2.2.2.1) then some true
 else
 bif decide ((0:Int)<s1) then
 (idx a0 (IntKind.wrap .i64 (s1 - (1:Int)))).bind fun x6=>some (decide (x2.2.1<x6.2.2.1))
 else some false)
 fun x7=>bif x7 then some (.inr (.inr (10:Int))) else some (.inl (IntKind.wrap .i64 (s1+(1:Int))))
 else some (.inr (.inl ())))
 (0:Int))
 fun x8=>Sum.elim (fun _=>some (0:Int)) (fun y10=>some y10) x8
abbrev F57A:Zam:=(.cons (.pd Y58) (.cons (.pd Y3) (.cons (.pd Y3) (.cons (.pd Y3) .nil))))
abbrev F57R:Zam:=(.cons (.pd Y36) .nil)
def F57S:Tr.Spec:= {args:=F57A,res:=F57R,fns:=[],α:=El Y36,f:=fun x=>F57 x.1 x.2.1 x.2.2.1 x.2.2.2.1,unp:=fun z=>(((),(),(),(),()),(z,())) }
def F57M:List (Nat×List Tr.Spec):=[]
def F57H:ZaW:=(.seq .leaf (.seq (.seq (.reg [(18,Y4)]) .leaf) (.seq (.seq .leaf (.lp ⟨[(9,(.pd Y3))],[],[0,1,2,3],[],[],[]⟩ [((.exit 0),⟨[],[],[],[],[],[]⟩),(.ret,⟨[(8,(.pd Y36))],[],[],[],[],[]⟩)] (.seq .leaf (.seq (.seq .leaf (.seq (.seq (.reg [(37,Y4)]) .leaf) (.seq (.seq (.reg [(50,Y4)]) .leaf) (.seq (.reg [(82,Y4)]) .leaf)))) .leaf)))) .leaf)))
def F57V (a0:El Y58) (a1:El Y3) (a2:El Y3) (a3:El Y3):Option (El Y36):=Zau (mkE tyTab mapTab pkTab [] [] F57M 83 bdTab) (Zai Tryz.f81) Tryz.f81.results F57H F57A F57R (fun y=>y.2.1) (a0,a1,a2,a3,())
theorem F57_eq (a0:El Y58) (a1:El Y3) (a2:El Y3) (a3:El Y3):F57V a0 a1 a2 a3=F57 a0 a1 a2 a3:=by kernel_rfl
theorem F57_ok:ZaU Tryz.prog 81 F57S:=Zac (m:=F57M) (fn:=Tryz.f81) (hint:=F57H) (pack:=fun y=>y.2.1) Za2 tab_ok trivial fun x z h=>(F57_eq x.1 x.2.1 x.2.2.1 x.2.2.2.1).trans h
def F70: (El Y31)→(El Y3)→Option (El Y36):=fun a0 a1=>
 (idx a0.2.2.1 a1).bind fun x0=>
 (F64 x0.2.2.2.1).bind fun x1=>
 bif !x1 then some (12:Int)
 else
 Option.bind (bif decide (x0.1< (-1:Int)) then some true else some (decide (x0.2.2.1< (0:Int)))) fun x2=>
 bif x2 then some (2:Int)
 else
 (F65 x0.2.1 (0:Int) (36524:Int)).bind fun x3=>
 bif !x3 then some (11:Int)
 else
 Option.bind
 (bif decide (x0.2.2.2.2.1< (0:Int)) then some true
 else some (decide ((↑(List.length a0.2.1):Int)≤x0.2.2.2.2.1)))
 fun x4=>
 bif x4 then some (9:Int)
 else
 (F57 x0.2.2.2.2.2.2.2.1 (↑(List.length a0.1):Int) (0:Int) (3155932800:Int)).bind fun x5=>
 bif !decide (x5=(0:Int)) then some x5
 else
 Option.bind
 (run
 (fun s6=>
 bif decide (s6<a1) then
 (idx a0.2.2.1 s6).bind fun x7=>
 Option.bind
 (bif decide (x7.2.2.2.1=x0.2.2.2.1) then
 bif decide (x7.2.1=x0.2.1) then some (decide (x7.2.2.1=x0.2.2.1)) else some false
 else some false)
 fun x8=>bif x8 then some (.inr (.inr (6:Int))) else some (.inl (IntKind.wrap .i64 (s6+(1:Int))))
 else some (.inr (.inl ())))
 (0:Int))
 fun x9=>Sum.elim (fun _=>some (0:Int)) (fun y11=>some y11) x9
abbrev F70A:Zam:=(.cons (.pd Y31) (.cons (.pd Y3) .nil))
abbrev F70R:Zam:=(.cons (.pd Y36) .nil)
def F70S:Tr.Spec:= {args:=F70A,res:=F70R,fns:=[],α:=El Y36,f:=fun x=>F70 x.1 x.2.1,unp:=fun z=>(((),(),()),(z,())) }
def F70M:List (Nat×List Tr.Spec):=[(79,[F64S]),(80,[F65S]),(81,[F57S])]
def F70H:ZaW:=(.seq .leaf (.seq .leaf (.seq .leaf (.seq (.seq (.reg [(25,Y4)]) .leaf) (.seq .leaf (.seq (.seq (.reg [(40,Y4)]) .leaf) (.seq .leaf (.seq .leaf (.seq (.seq .leaf (.lp ⟨[(7,(.pd Y3))],[],[1,2,5],[],[],[]⟩ [((.exit 0),⟨[],[],[],[],[],[]⟩),(.ret,⟨[(4,(.pd Y36))],[],[],[],[],[]⟩)] (.seq .leaf (.seq (.seq .leaf (.seq (.reg [(78,Y4)]) .leaf)) .leaf)))) .leaf)))))))))
def F70V (a0:El Y31) (a1:El Y3):Option (El Y36):=Zau (mkE tyTab mapTab pkTab [] [] F70M 79 bdTab) (Zai Tryz.f55) Tryz.f55.results F70H F70A F70R (fun y=>y.2.1) (a0,a1,())
theorem F70_eq (a0:El Y31) (a1:El Y3):F70V a0 a1=F70 a0 a1:=by kernel_rfl
theorem F70_ok:ZaU Tryz.prog 55 F70S:=Zac (m:=F70M) (fn:=Tryz.f55) (hint:=F70H) (pack:=fun y=>y.2.1) Za2 tab_ok ⟨⟨F64_ok,trivial⟩,⟨F65_ok,trivial⟩,⟨F57_ok,trivial⟩,trivial⟩ fun x z h=>(F70_eq x.1 x.2.1).trans h
def F66: (El Y31)→(El Y3)→(El Y3)→(El Y3)→Option (El Y4):=fun a0 a1 a2 a3=>
 Option.bind
 (run
 (fun s0=>
 bif decide (s0.2≤a1) then
 Option.bind
 (run
 (fun s1=>
 bif decide (s1.2<a1) then
 Option.bind
 ((idx a0.2.2.2.1 s1.2).bind fun x2=>
 bif x2.2.2.2.2.1 then (idx a0.2.2.2.1 s1.2).bind fun x3=>some (decide (x3.1=s0.1)) else some false)
 fun x4=>
 bif x4 then (idx a0.2.2.2.1 s1.2).bind fun x5=>some (.inl (x5.2.2.1,IntKind.wrap .i64 (s1.2+(1:Int))))
 else some (.inl (s1.1,IntKind.wrap .i64 (s1.2+(1:Int))))
 else some (.inr s1.1))
 ((-1:Int),(0:Int)))
 fun x6=>bif decide (x6=a3) then some (.inr (.inr true)) else some (.inl (x6,IntKind.wrap .i64 (s0.2+(1:Int))))
 else some (.inr (.inl ())))
 (a2,(0:Int)))
 fun x7=>Sum.elim (fun _=>some false) (fun y9=>some y9) x7
abbrev F66A:Zam:=(.cons (.pd Y31) (.cons (.pd Y3) (.cons (.pd Y3) (.cons (.pd Y3) .nil))))
abbrev F66R:Zam:=(.cons (.pd Y4) .nil)
def F66S:Tr.Spec:= {args:=F66A,res:=F66R,fns:=[],α:=El Y4,f:=fun x=>F66 x.1 x.2.1 x.2.2.1 x.2.2.2.1,unp:=fun z=>(((),(),(),(),()),(z,())) }
def F66M:List (Nat×List Tr.Spec):=[]
def F66H:ZaW:=(.seq .leaf (.seq (.seq .leaf (.lp ⟨[(2,(.pd Y3)),(9,(.pd Y3))],[],[1,3,4],[],[],[]⟩ [((.exit 0),⟨[],[],[],[],[],[]⟩),(.ret,⟨[(8,(.pd Y4))],[],[],[],[],[]⟩)] (.seq .leaf (.seq (.seq .leaf (.seq (.seq .leaf (.lp ⟨[(10,(.pd Y3)),(11,(.pd Y3))],[],[1,2,3,4,9],[],[],[]⟩ [((.exit 2),⟨[(10,(.pd Y3))],[],[1,3,4,9],[],[],[]⟩)] (.seq .leaf (.seq (.seq (.reg [(37,Y4)]) .leaf) .leaf)))) .leaf)) .leaf)))) .leaf))
def F66V (a0:El Y31) (a1:El Y3) (a2:El Y3) (a3:El Y3):Option (El Y4):=Zau (mkE tyTab mapTab pkTab [] [] F66M 48 bdTab) (Zai Tryz.f82) Tryz.f82.results F66H F66A F66R (fun y=>y.2.1) (a0,a1,a2,a3,())
theorem F66_eq (a0:El Y31) (a1:El Y3) (a2:El Y3) (a3:El Y3):F66V a0 a1 a2 a3=F66 a0 a1 a2 a3:=by kernel_rfl
theorem F66_ok:ZaU Tryz.prog 82 F66S:=Zac (m:=F66M) (fn:=Tryz.f82) (hint:=F66H) (pack:=fun y=>y.2.1) Za2 tab_ok trivial fun x z h=>(F66_eq x.1 x.2.1 x.2.2.1 x.2.2.2.1).trans h
def F67: (El Y31)→(El Y3)→Option (El Y36):=fun a0 a1=>
 (idx a0.2.2.2.1 a1).bind fun x0=>
 Option.bind
 ((F65 x0.1 (0:Int) (IntKind.wrap .i64 ((↑(List.length a0.2.2.1):Int) - (1:Int)))).bind fun x1=>
 bif !x1 then some true
 else
 (F65 x0.2.2.1 (0:Int) (IntKind.wrap .i64 ((↑(List.length a0.2.2.1):Int) - (1:Int)))).bind fun x2=>
 bif !x2 then some true else some (decide (x0.1=x0.2.2.1)))
 fun x3=>
 bif x3 then some (9:Int)
 else
 (idx a0.2.2.1 x0.1).bind fun x4=>
 (idx a0.2.2.1 x0.2.2.1).bind fun x5=>
 Option.bind
 ((F65 x0.2.1 (0:Int) (IntKind.wrap .i64 ((↑(List.length x4.2.2.2.2.2.2.2.1):Int) - (1:Int)))).bind fun x6=>
 bif !x6 then some true
 else
 (F65 x0.2.2.2.1 (0:Int) (IntKind.wrap .i64 ((↑(List.length x5.2.2.2.2.2.2.2.1):Int) - (1:Int)))).bind fun x7=>
 some !x7)
 fun x8=>
 bif x8 then some (9:Int)
 else
 (idx x4.2.2.2.2.2.2.2.1 x0.2.1).bind fun x9=>
 (idx x5.2.2.2.2.2.2.2.1 x0.2.2.2.1).bind fun x10=>
 bif !decide (x9.1=x10.1) then some (13:Int)
 else
 Option.bind
 (bif x0.2.2.2.2.1 then
 bif !decide (x0.2.1=IntKind.wrap .i64 ((↑(List.length x4.2.2.2.2.2.2.2.1):Int) - (1:Int))) then some true
 else some !decide (x0.2.2.2.1=(0:Int))
 else some false)
 fun x11=>
 bif x11 then some (19:Int)
 else
 Option.bind
 (run
 (fun s12=>
 bif decide (s12<a1) then
 (idx a0.2.2.2.1 s12).bind fun x13=>
 Option.bind
 (bif x0.2.2.2.2.1 then
 bif x13.2.2.2.2.1 then
 bif decide (x13.1=x0.1) then some true else some (decide (x13.2.2.1=x0.2.2.1))
 else some false
 else some false)
 fun x14=>bif x14 then some (.inr (.inr (19:Int))) else some (.inl (IntKind.wrap .i64 (s12+(1:Int))))
 else some (.inr (.inl ())))
 (0:Int))
 fun x15=>
 Sum.elim
 (fun _=>
 Option.bind (bif x0.2.2.2.2.1 then (F66 a0 a1 x0.2.2.1 x0.1).bind fun x17=>some x17 else some false) fun x18=>
 bif x18 then some (19:Int)
 else
 Option.bind
 (run
 (fun s19=>
 bif decide (s19<a1) then
 (idx a0.2.2.2.1 s19).bind fun x20=>
 Option.bind
 (bif decide (x20.1=x0.1) then
 bif decide (x20.2.1=x0.2.1) then
 bif decide (x20.2.2.1=x0.2.2.1) then some (decide (x20.2.2.2.1=x0.2.2.2.1))
 else some false
 else some false
 else some false)
 fun x21=>bif x21 then some (.inr (.inr (6:Int))) else some (.inl (IntKind.wrap .i64 (s19+(1:Int))))
 else some (.inr (.inl ())))
 (0:Int))
 fun x22=>Sum.elim (fun _=>some (0:Int)) (fun y24=>some y24) x22)
 (fun y25=>some y25) x15
abbrev F67A:Zam:=(.cons (.pd Y31) (.cons (.pd Y3) .nil))
abbrev F67R:Zam:=(.cons (.pd Y36) .nil)
def F67S:Tr.Spec:= {args:=F67A,res:=F67R,fns:=[],α:=El Y36,f:=fun x=>F67 x.1 x.2.1,unp:=fun z=>(((),(),()),(z,())) }
def F67M:List (Nat×List Tr.Spec):=[(80,[F65S]),(82,[F66S])]
def F67H:ZaW:=(.seq .leaf (.seq .leaf (.seq (.seq (.reg [(41,Y4)]) .leaf) (.seq .leaf (.seq (.seq (.reg [(71,Y4)]) .leaf) (.seq .leaf (.seq (.seq (.reg [(99,Y4)]) .leaf) (.seq (.seq .leaf (.lp ⟨[(8,(.pd Y3))],[],[1,2,5],[],[],[]⟩ [((.exit 0),⟨[],[],[1,2,5],[],[],[]⟩),(.ret,⟨[(4,(.pd Y36))],[],[],[],[],[]⟩)] (.seq .leaf (.seq (.seq .leaf (.seq (.reg [(129,Y4)]) .leaf)) .leaf)))) (.seq (.seq (.reg [(140,Y4)]) .leaf) (.seq (.seq .leaf (.lp ⟨[(10,(.pd Y3))],[],[1,2,5],[],[],[]⟩ [((.exit 2),⟨[],[],[],[],[],[]⟩),(.ret,⟨[(4,(.pd Y36))],[],[],[],[],[]⟩)] (.seq .leaf (.seq (.seq .leaf (.seq (.reg [(176,Y4)]) .leaf)) .leaf)))) .leaf))))))))))
def F67V (a0:El Y31) (a1:El Y3):Option (El Y36):=Zau (mkE tyTab mapTab pkTab [] [] F67M 177 bdTab) (Zai Tryz.f56) Tryz.f56.results F67H F67A F67R (fun y=>y.2.1) (a0,a1,())
theorem F67_eq (a0:El Y31) (a1:El Y3):F67V a0 a1=F67 a0 a1:=by kernel_rfl
theorem F67_ok:ZaU Tryz.prog 56 F67S:=Zac (m:=F67M) (fn:=Tryz.f56) (hint:=F67H) (pack:=fun y=>y.2.1) Za2 tab_ok ⟨⟨F65_ok,trivial⟩,⟨F66_ok,trivial⟩,trivial⟩ fun x z h=>(F67_eq x.1 x.2.1).trans h
def F61: (El Y26)→(El Y3)→(El Y4)→Option (El Y38):=fun a0 a1 a2=>
 Option.bind
 (run
 (fun s0=>
 bif decide (s0.2<a1) then
 Option.bind
 (run
 (fun s1=>
 bif decide (s1.2.2<a1) then
 Option.bind (Zap (decide (List.length s1.2.1+List.length [(1099511627776:Int)]≤Zaq))) fun _=>
 some (.inl (s1.1,s1.2.1++[(1099511627776:Int)],IntKind.wrap .i64 (s1.2.2+(1:Int))))
 else some (.inr (s1.1,s1.2.1)))
 (s0.1,[],(0:Int)))
 fun x3=>
 Option.bind (Zap (decide (List.length x3.1+List.length [x3.2]≤Zaq))) fun _=>
 some (.inl (x3.1++[x3.2],IntKind.wrap .i64 (s0.2+(1:Int))))
 else some (.inr s0.1))
 ([],(0:Int)))
 fun x5=>
 Option.bind
 (run
 (fun s6=>
 bif decide (s6.2< (↑(List.length a0):Int)) then
 (idx a0 s6.2).bind fun x7=>
 Option.bind (bif x7.2.2.2.1 then some true else some !a2) fun x8=>
 bif x8 then
 (inb x7.1 (List.length s6.1)).bind fun x9=>
 Option.bind s6.1[x9]? fun _=>
 (inb x7.1 (List.length s6.1)).bind fun x11=>
 Option.bind s6.1[x11]? fun _=>
 (idx s6.1 (↑x11:Int)).bind fun x13=>
 (inb x7.2.1 (List.length x13)).bind fun x14=>
 (idx s6.1 (↑x11:Int)).bind fun x15=>
 Option.bind x15[x14]? fun x16=>
 (idx s6.1 (↑x9:Int)).bind fun x17=>
 (inb x7.2.1 (List.length x17)).bind fun x18=>
 (idx s6.1 (↑x9:Int)).bind fun x19=>
 Option.bind x19[x18]? fun _=>
 some
 (.inl (List.set s6.1 (Int.toNat (↑x9:Int)) (List.set x19 x18 (Tr.imin x16 x7.2.2.1)),IntKind.wrap .i64 (s6.2+(1:Int))))
 else some (.inl (s6.1,IntKind.wrap .i64 (s6.2+(1:Int))))
 else some (.inr s6.1))
 (x5,(0:Int)))
 fun x21=>
 Option.bind
 (run
 (fun s22=>
 bif decide (s22.2<a1) then
 Option.bind
 (run
 (fun s23=>
 bif decide (s23.2<a1) then
 Option.bind
 (run
 (fun s24=>
 bif decide (s24.2<a1) then
 (inb s23.2 (List.length s24.1)).bind fun x25=>
 Option.bind s24.1[x25]? fun _=>
 (inb s23.2 (List.length s24.1)).bind fun x27=>
 Option.bind s24.1[x27]? fun _=>
 (idx s24.1 (↑x27:Int)).bind fun x29=>
 (inb s24.2 (List.length x29)).bind fun x30=>
 (idx s24.1 (↑x27:Int)).bind fun x31=>
 Option.bind x31[x30]? fun x32=>
 (inb s23.2 (List.length s24.1)).bind fun x33=>
 Option.bind s24.1[x33]? fun _=>
 (idx s24.1 (↑x33:Int)).bind fun x35=>
 (inb s22.2 (List.length x35)).bind fun x36=>
 (idx s24.1 (↑x33:Int)).bind fun x37=>
 Option.bind x37[x36]? fun x38=>
 (inb s22.2 (List.length s24.1)).bind fun x39=>
 Option.bind s24.1[x39]? fun _=>
 (idx s24.1 (↑x39:Int)).bind fun x41=>
 (inb s24.2 (List.length x41)).bind fun x42=>
 (idx s24.1 (↑x39:Int)).bind fun x43=>
 Option.bind x43[x42]? fun x44=>
 (idx s24.1 (↑x25:Int)).bind fun x45=>
 (inb s24.2 (List.length x45)).bind fun x46=>
 (idx s24.1 (↑x25:Int)).bind fun x47=>
 Option.bind x47[x46]? fun _=>
 some
 (.inl
 (List.set s24.1 (Int.toNat (↑x25:Int))
 (List.set x47 x46 (Tr.imin x32 (IntKind.wrap .i64 (x38+x44)))),
 IntKind.wrap .i64 (s24.2+(1:Int))))
 else some (.inr s24.1))
 (s23.1,(0:Int)))
 fun x49=>some (.inl (x49,IntKind.wrap .i64 (s23.2+(1:Int))))
 else some (.inr s23.1))
 (s22.1,(0:Int)))
 fun x50=>some (.inl (x50,IntKind.wrap .i64 (s22.2+(1:Int))))
 else some (.inr s22.1))
 (x21,(0:Int)))
 fun x51=>some x51
abbrev F61A:Zam:=(.cons (.pd Y26) (.cons (.pd Y3) (.cons (.pd Y4) .nil)))
abbrev F61R:Zam:=(.cons (.pd Y38) .nil)
def F61S:Tr.Spec:= {args:=F61A,res:=F61R,fns:=[],α:=El Y38,f:=fun x=>F61 x.1 x.2.1 x.2.2.1,unp:=fun z=>(((),(),(),()),(z,())) }
def F61M:List (Nat×List Tr.Spec):=[]
def F61H:ZaW:=(.seq .leaf (.seq .leaf (.seq (.seq .leaf (.lp ⟨[(7,(.rows Y3 false)),(8,(.pd Y3))],[],[0,1,2],[],[],[]⟩ [((.exit 0),⟨[(7,(.rows Y3 false))],[],[0,1,2],[],[],[]⟩)] (.seq .leaf (.seq (.seq .leaf (.seq (.seq .leaf (.lp ⟨[(7,(.rows Y3 false)),(9,(.own Y3 false)),(10,(.pd Y3))],[],[0,1,2,8],[],[],[]⟩ [((.exit 2),⟨[(7,(.rows Y3 false)),(9,(.own Y3 false))],[],[0,1,2,8],[],[],[]⟩)] .leaf)) .leaf)) .leaf)))) (.seq (.seq .leaf (.lp ⟨[(7,(.rows Y3 false)),(11,(.pd Y3))],[],[0,1,2],[],[],[]⟩ [((.exit 4),⟨[(7,(.rows Y3 false))],[],[1],[],[],[]⟩)] (.seq .leaf (.seq (.seq .leaf (.seq (.reg [(50,Y4)]) .leaf)) .leaf)))) (.seq (.seq .leaf (.lp ⟨[(7,(.rows Y3 false)),(13,(.pd Y3))],[],[1],[],[],[]⟩ [((.exit 6),⟨[(7,(.rows Y3 false))],[],[],[],[],[]⟩)] (.seq .leaf (.seq (.seq .leaf (.lp ⟨[(7,(.rows Y3 false)),(14,(.pd Y3))],[],[1,13],[],[],[]⟩ [((.exit 8),⟨[(7,(.rows Y3 false))],[],[1,13],[],[],[]⟩)] (.seq .leaf (.seq (.seq .leaf (.lp ⟨[(7,(.rows Y3 false)),(15,(.pd Y3))],[],[1,13,14],[],[],[]⟩ [((.exit 10),⟨[(7,(.rows Y3 false))],[],[1,13,14],[],[],[]⟩)] .leaf)) .leaf)))) .leaf)))) .leaf)))))
def F61V (a0:El Y26) (a1:El Y3) (a2:El Y4):Option (El Y38):=Zau (mkE tyTab mapTab pkTab [38] [] F61M 116 bdTab) (Zai Tryz.f110) Tryz.f110.results F61H F61A F61R (fun y=>y.2.1) (a0,a1,a2,())
theorem F61_eq (a0:El Y26) (a1:El Y3) (a2:El Y4):F61V a0 a1 a2=F61 a0 a1 a2:=by kernel_rfl
theorem F61_ok:ZaU Tryz.prog 110 F61S:=Zac (m:=F61M) (fn:=Tryz.f110) (hint:=F61H) (pack:=fun y=>y.2.1) Za2 tab_ok trivial fun x z h=>(F61_eq x.1 x.2.1 x.2.2.1).trans h
def F59: (El Y26)→(El Y3)→Option (El Y26):=fun a0 a1=>
 (F61 a0 a1 false).bind fun x0=>
 (F61 a0 a1 true).bind fun x1=>
 Option.bind
 (run
 (fun s2=>
 bif decide (s2.2<a1) then
 Option.bind
 (run
 (fun s3=>
 bif decide (s3.2<a1) then
 Option.bind
 (bif decide (s2.2=s3.2) then some true
 else (idx x0 s2.2).bind fun x4=>(idx x4 s3.2).bind fun x5=>some (decide ((14400:Int)<x5)))
 fun x6=>
 bif x6 then some (.inl (s3.1,IntKind.wrap .i64 (s3.2+(1:Int))))
 else
 (idx x0 s2.2).bind fun x7=>
 (idx x7 s3.2).bind fun x8=>
 (idx x1 s2.2).bind fun x9=>
 (idx x9 s3.2).bind fun x10=>
 (idx x0 s2.2).bind fun x11=>
 (idx x11 s3.2).bind fun x12=>
 Option.bind (Zap (decide (List.length s3.1+List.length [(s2.2,s3.2,x8,decide (x10=x12),())]≤Zaq))) fun _=>
 Option.bind
 ((idx x1 s2.2).bind fun x14=>
 (idx x14 s3.2).bind fun x15=>
 (idx x0 s2.2).bind fun x16=>
 (idx x16 s3.2).bind fun x17=>
 bif decide (x17<x15) then
 (idx x1 s2.2).bind fun x18=>(idx x18 s3.2).bind fun x19=>some (decide (x19≤(14400:Int)))
 else some false)
 fun x20=>
 bif x20 then
 (idx x1 s2.2).bind fun x21=>
 (idx x21 s3.2).bind fun x22=>
 Option.bind
 (Zap
 (decide
 (List.length (s3.1++[(s2.2,s3.2,x8,decide (x10=x12),())])+List.length [(s2.2,s3.2,x22,true,())]≤
 Zaq)))
 fun _=>
 some
 (.inl
 (s3.1++[(s2.2,s3.2,x8,decide (x10=x12),())]++[(s2.2,s3.2,x22,true,())],
 IntKind.wrap .i64 (s3.2+(1:Int))))
 else some (.inl (s3.1++[(s2.2,s3.2,x8,decide (x10=x12),())],IntKind.wrap .i64 (s3.2+(1:Int))))
 else some (.inr s3.1))
 (s2.1,(0:Int)))
 fun x24=>some (.inl (x24,IntKind.wrap .i64 (s2.2+(1:Int))))
 else some (.inr s2.1))
 ([],(0:Int)))
 fun x25=>some x25
abbrev F59A:Zam:=(.cons (.pd Y26) (.cons (.pd Y3) .nil))
abbrev F59R:Zam:=(.cons (.pd Y26) .nil)
def F59S:Tr.Spec:= {args:=F59A,res:=F59R,fns:=[],α:=El Y26,f:=fun x=>F59 x.1 x.2.1,unp:=fun z=>(((),(),()),(z,())) }
def F59M:List (Nat×List Tr.Spec):=[(110,[F61S])]
def F59H:ZaW:=(.seq .leaf (.seq .leaf (.seq .leaf (.seq (.seq .leaf (.lp ⟨[(7,(.own Y79 false)),(8,(.pd Y3))],[],[1,5,6],[],[],[]⟩ [((.exit 0),⟨[(7,(.own Y79 false))],[],[],[],[],[]⟩)] (.seq .leaf (.seq (.seq .leaf (.lp ⟨[(7,(.own Y79 false)),(9,(.pd Y3))],[],[1,5,6,8],[],[],[]⟩ [((.exit 2),⟨[(7,(.own Y79 false))],[],[1,5,6,8],[],[],[]⟩)] (.seq .leaf (.seq (.seq (.seq (.reg [(39,Y4)]) .leaf) (.seq .leaf (.seq (.reg [(92,Y4)]) .leaf))) .leaf)))) .leaf)))) .leaf))))
def F59V (a0:El Y26) (a1:El Y3):Option (El Y26):=Zau (mkE tyTab mapTab pkTab [] [] F59M 107 bdTab) (Zai Tryz.f83) Tryz.f83.results F59H F59A F59R (fun y=>y.2.1) (a0,a1,())
theorem F59_eq (a0:El Y26) (a1:El Y3):F59V a0 a1=F59 a0 a1:=by kernel_rfl
theorem F59_ok:ZaU Tryz.prog 83 F59S:=Zac (m:=F59M) (fn:=Tryz.f83) (hint:=F59H) (pack:=fun y=>y.2.1) Za2 tab_ok ⟨⟨F61_ok,trivial⟩,trivial⟩ fun x z h=>(F59_eq x.1 x.2.1).trans h
def F68: (El Y31)→Option (El Y3×El Y36):=fun a0=>
 Option.bind
 (run
 (fun s0=>
 bif decide (s0< (↑(List.length a0.2.2.2.2.1):Int)) then
 (idx a0.2.2.2.2.1 s0).bind fun x1=>
 Option.bind
 ((F65 x1.1 (0:Int) (IntKind.wrap .i64 ((↑(List.length a0.1):Int) - (1:Int)))).bind fun x2=>
 bif !x2 then some true
 else
 (F65 x1.2.1 (0:Int) (IntKind.wrap .i64 ((↑(List.length a0.1):Int) - (1:Int)))).bind fun x3=>
 bif !x3 then some true else some (decide (x1.1=x1.2.1)))
 fun x4=>
 bif x4 then some (.inr (.inr (s0,(9:Int))))
 else
 (F65 x1.2.2.1 (1:Int) (14400:Int)).bind fun x5=>
 bif !x5 then some (.inr (.inr (s0,(2:Int))))
 else
 Option.bind
 (run
 (fun s6=>
 bif decide (s6<s0) then
 (idx a0.2.2.2.2.1 s6).bind fun x7=>
 Option.bind
 (bif decide (x7.1=x1.1) then
 bif decide (x7.2.1=x1.2.1) then some (x7.2.2.2.1==x1.2.2.2.1) else some false
 else some false)
 fun x8=>bif x8 then some (.inr (.inr (s0,(6:Int)))) else some (.inl (IntKind.wrap .i64 (s6+(1:Int))))
 else some (.inr (.inl ())))
 (0:Int))
 fun x9=>Sum.elim (fun _=>some (.inl (IntKind.wrap .i64 (s0+(1:Int))))) (fun y11=>some (.inr (.inr (y11.1,y11.2)))) x9
 else some (.inr (.inl ())))
 (0:Int))
 fun x12=>
 Sum.elim
 (fun _=>
 (F59 a0.2.2.2.2.1 (↑(List.length a0.1):Int)).bind fun x14=>
 bif !decide ((↑(List.length x14):Int)=(↑(List.length a0.2.2.2.2.1):Int)) then some ((0:Int),(18:Int))
 else
 Option.bind
 (run
 (fun s15=>
 bif decide (s15< (↑(List.length x14):Int)) then
 (idx x14 s15).bind fun x16=>
 (idx a0.2.2.2.2.1 s15).bind fun x17=>
 bif
 !(decide (x16.1=x17.1) &&
 (decide (x16.2.1=x17.2.1) && (decide (x16.2.2.1=x17.2.2.1) &&x16.2.2.2.1==x17.2.2.2.1))) then
 some (.inr (.inr ((0:Int),(18:Int))))
 else some (.inl (IntKind.wrap .i64 (s15+(1:Int))))
 else some (.inr (.inl ())))
 (0:Int))
 fun x18=>Sum.elim (fun _=>some ((0:Int),(0:Int))) (fun y20=>some (y20.1,y20.2)) x18)
 (fun y21=>some (y21.1,y21.2)) x12
abbrev F68A:Zam:=(.cons (.pd Y31) .nil)
abbrev F68R:Zam:=(.cons (.pd Y3) (.cons (.pd Y36) .nil))
def F68S:Tr.Spec:= {args:=F68A,res:=F68R,fns:=[],α:=El Y3×El Y36,f:=fun x=>F68 x.1,unp:=fun z=>(((),()),(z.1,z.2,())) }
def F68M:List (Nat×List Tr.Spec):=[(80,[F65S]),(83,[F59S])]
def F68H:ZaW:=(.seq .leaf (.seq (.seq .leaf (.lp ⟨[(4,(.pd Y3))],[],[1],[],[],[]⟩ [((.exit 0),⟨[],[],[1],[],[],[]⟩),(.ret,⟨[(2,(.pd Y3)),(3,(.pd Y36))],[],[],[],[],[]⟩)] (.seq .leaf (.seq (.seq .leaf (.seq (.seq (.reg [(46,Y4)]) .leaf) (.seq .leaf (.seq .leaf (.lp ⟨[(6,(.pd Y3))],[],[1,4,5],[],[],[]⟩ [((.exit 2),⟨[],[],[1,4],[],[],[]⟩),(.ret,⟨[(2,(.pd Y3)),(3,(.pd Y36))],[],[],[],[],[]⟩)] (.seq .leaf (.seq (.seq .leaf (.seq (.reg [(81,Y4)]) .leaf)) .leaf))))))) .leaf)))) (.seq .leaf (.seq .leaf (.seq (.seq .leaf (.lp ⟨[(9,(.pd Y3))],[],[1,8],[],[],[]⟩ [((.exit 4),⟨[],[],[],[],[],[]⟩),(.ret,⟨[(2,(.pd Y3)),(3,(.pd Y36))],[],[],[],[],[]⟩)] .leaf)) .leaf)))))
def F68V (a0:El Y31):Option (El Y3×El Y36):=Zau (mkE tyTab mapTab pkTab [] [] F68M 111 bdTab) (Zai Tryz.f57) Tryz.f57.results F68H F68A F68R (fun y=>(y.2.1,y.2.2.1)) (a0,())
theorem F68_eq (a0:El Y31):F68V a0=F68 a0:=by kernel_rfl
theorem F68_ok:ZaU Tryz.prog 57 F68S:=Zac (m:=F68M) (fn:=Tryz.f57) (hint:=F68H) (pack:=fun y=>(y.2.1,y.2.2.1)) Za2 tab_ok ⟨⟨F65_ok,trivial⟩,⟨F59_ok,trivial⟩,trivial⟩ fun x z h=>(F68_eq x.1).trans h
def F60: (El Y29)→Option (El Y3×El Y36):=fun a0=>
 Option.bind
 ((F65 a0.2.1 (0:Int) (1000000:Int)).bind fun x0=>
 bif !x0 then some true
 else
 (F65 a0.2.2.1 (0:Int) (86400:Int)).bind fun x1=>
 bif !x1 then some true else (F65 a0.2.2.2.1 (0:Int) (1000000:Int)).bind fun x2=>some !x2)
 fun x3=>
 bif x3 then some ((-1:Int),(2:Int))
 else
 bif decide ((16:Int)< (↑(List.length a0.1):Int)) then some ((0:Int),(5:Int))
 else
 Option.bind
 (run
 (fun s4=>
 bif decide (s4< (↑(List.length a0.1):Int)) then
 (idx a0.1 s4).bind fun x5=>
 (F64 x5.1).bind fun x6=>
 bif !x6 then some (.inr (.inr (s4,(12:Int))))
 else
 Option.bind
 (run
 (fun s7=>
 bif decide (s7<s4) then
 (idx a0.1 s7).bind fun x8=>
 bif decide (x8.1=x5.1) then some (.inr (.inr (s4,(6:Int)))) else some (.inl (IntKind.wrap .i64 (s7+(1:Int))))
 else some (.inr (.inl ())))
 (0:Int))
 fun x9=>
 Sum.elim
 (fun _=>
 Option.bind
 ((F65 x5.2.1 (0:Int) (1000000:Int)).bind fun x11=>
 bif !x11 then some true
 else
 (F65 x5.2.2.1 (1:Int) (8:Int)).bind fun x12=>
 bif !x12 then some true
 else
 (F65 x5.2.2.2.1 (1:Int) (16:Int)).bind fun x13=>
 bif !x13 then some true
 else
 (F65 x5.2.2.2.2.1 (0:Int) (86400:Int)).bind fun x14=>
 bif !x14 then some true else (F65 x5.2.2.2.2.2.1 (1:Int) (255:Int)).bind fun x15=>some !x15)
 fun x16=>bif x16 then some (.inr (.inr (s4,(2:Int)))) else some (.inl (IntKind.wrap .i64 (s4+(1:Int)))))
 (fun y17=>some (.inr (.inr (y17.1,y17.2)))) x9
 else some (.inr (.inl ())))
 (0:Int))
 fun x18=>Sum.elim (fun _=>some ((0:Int),(0:Int))) (fun y20=>some (y20.1,y20.2)) x18
abbrev F60A:Zam:=(.cons (.pd Y29) .nil)
abbrev F60R:Zam:=(.cons (.pd Y3) (.cons (.pd Y36) .nil))
def F60S:Tr.Spec:= {args:=F60A,res:=F60R,fns:=[],α:=El Y3×El Y36,f:=fun x=>F60 x.1,unp:=fun z=>(((),()),(z.1,z.2,())) }
def F60M:List (Nat×List Tr.Spec):=[(79,[F64S]),(80,[F65S])]
def F60H:ZaW:=(.seq .leaf (.seq (.seq (.reg [(22,Y4)]) .leaf) (.seq .leaf (.seq (.seq .leaf (.lp ⟨[(4,(.pd Y3))],[],[1],[],[],[]⟩ [((.exit 0),⟨[],[],[],[],[],[]⟩),(.ret,⟨[(2,(.pd Y3)),(3,(.pd Y36))],[],[],[],[],[]⟩)] (.seq .leaf (.seq (.seq .leaf (.seq .leaf (.seq (.seq .leaf (.lp ⟨[(6,(.pd Y3))],[],[1,4,5],[],[],[]⟩ [((.exit 2),⟨[],[],[1,4,5],[],[],[]⟩),(.ret,⟨[(2,(.pd Y3)),(3,(.pd Y36))],[],[],[],[],[]⟩)] .leaf)) (.seq (.reg [(86,Y4)]) .leaf)))) .leaf)))) .leaf))))
def F60V (a0:El Y29):Option (El Y3×El Y36):=Zau (mkE tyTab mapTab pkTab [] [] F60M 88 bdTab) (Zai Tryz.f58) Tryz.f58.results F60H F60A F60R (fun y=>(y.2.1,y.2.2.1)) (a0,())
theorem F60_eq (a0:El Y29):F60V a0=F60 a0:=by kernel_rfl
theorem F60_ok:ZaU Tryz.prog 58 F60S:=Zac (m:=F60M) (fn:=Tryz.f58) (hint:=F60H) (pack:=fun y=>(y.2.1,y.2.2.1)) Za2 tab_ok ⟨⟨F64_ok,trivial⟩,⟨F65_ok,trivial⟩,trivial⟩ fun x z h=>(F60_eq x.1).trans h
def F58: (El Y31)→Option (El Y3×El Y3×El Y36):=fun a0=>
 (F71 a0.1).bind fun x0=>
 bif !decide (x0.2=(0:Int)) then some ((0:Int),x0.1,x0.2)
 else
 (F69 a0.2.1).bind fun x1=>
 bif !decide (x1.2=(0:Int)) then some ((1:Int),x1.1,x1.2)
 else
 bif decide ((1024:Int)< (↑(List.length a0.2.2.1):Int)) then some ((2:Int),(0:Int),(5:Int))
 else
 Option.bind
 (run
 (fun s2=>
 bif decide (s2< (↑(List.length a0.2.2.1):Int)) then
 (F70 a0 s2).bind fun x3=>
 bif !decide (x3=(0:Int)) then some (.inr (.inr ((2:Int),s2,x3))) else some (.inl (IntKind.wrap .i64 (s2+(1:Int))))
 else some (.inr (.inl ())))
 (0:Int))
 fun x4=>
 Sum.elim
 (fun _=>
 bif decide ((1024:Int)< (↑(List.length a0.2.2.2.1):Int)) then some ((3:Int),(0:Int),(5:Int))
 else
 Option.bind
 (run
 (fun s6=>
 bif decide (s6< (↑(List.length a0.2.2.2.1):Int)) then
 (F67 a0 s6).bind fun x7=>
 bif !decide (x7=(0:Int)) then some (.inr (.inr ((3:Int),s6,x7)))
 else some (.inl (IntKind.wrap .i64 (s6+(1:Int))))
 else some (.inr (.inl ())))
 (0:Int))
 fun x8=>
 Sum.elim
 (fun _=>
 (F68 a0).bind fun x10=>
 bif !decide (x10.2=(0:Int)) then some ((4:Int),x10.1,x10.2)
 else
 (F60 a0.2.2.2.2.2.1).bind fun x11=>
 bif !decide (x11.2=(0:Int)) then some ((5:Int),x11.1,x11.2) else some ((0:Int),(0:Int),(0:Int)))
 (fun y12=>some (y12.1,y12.2.1,y12.2.2)) x8)
 (fun y13=>some (y13.1,y13.2.1,y13.2.2)) x4
abbrev F58A:Zam:=(.cons (.pd Y31) .nil)
abbrev F58R:Zam:=(.cons (.pd Y3) (.cons (.pd Y3) (.cons (.pd Y36) .nil)))
def F58S:Tr.Spec:= {args:=F58A,res:=F58R,fns:=[],α:=El Y3×El Y3×El Y36,f:=fun x=>F58 x.1,unp:=fun z=>(((),()),(z.1,z.2.1,z.2.2,())) }
def F58M:List (Nat×List Tr.Spec):=[(53,[F71S]),(54,[F69S]),(55,[F70S]),(56,[F67S]),(57,[F68S]),(58,[F60S])]
def F58H:ZaW:=(.seq .leaf (.seq .leaf (.seq .leaf (.seq .leaf (.seq .leaf (.seq .leaf (.seq (.seq .leaf (.lp ⟨[(7,(.pd Y3))],[],[1],[],[],[]⟩ [((.exit 0),⟨[],[],[1],[],[],[]⟩),(.ret,⟨[(2,(.pd Y3)),(3,(.pd Y3)),(4,(.pd Y36))],[],[],[],[],[]⟩)] .leaf)) (.seq .leaf (.seq (.seq .leaf (.lp ⟨[(8,(.pd Y3))],[],[1],[],[],[]⟩ [((.exit 2),⟨[],[],[1],[],[],[]⟩),(.ret,⟨[(2,(.pd Y3)),(3,(.pd Y3)),(4,(.pd Y36))],[],[],[],[],[]⟩)] .leaf)) .leaf)))))))))
def F58V (a0:El Y31):Option (El Y3×El Y3×El Y36):=Zau (mkE tyTab mapTab pkTab [] [] F58M 84 bdTab) (Zai Tryz.f38) Tryz.f38.results F58H F58A F58R (fun y=>(y.2.1,y.2.2.1,y.2.2.2.1)) (a0,())
theorem F58_eq (a0:El Y31):F58V a0=F58 a0:=by kernel_rfl
theorem F58_ok:ZaU Tryz.prog 38 F58S:=Zac (m:=F58M) (fn:=Tryz.f38) (hint:=F58H) (pack:=fun y=>(y.2.1,y.2.2.1,y.2.2.2.1)) Za2 tab_ok ⟨⟨F71_ok,trivial⟩,⟨F69_ok,trivial⟩,⟨F70_ok,trivial⟩,⟨F67_ok,trivial⟩,⟨F68_ok,trivial⟩,⟨F60_ok,trivial⟩,trivial⟩ fun x z h=>(F58_eq x.1).trans h
def F63: (El Y31)→Option (El Y4):=fun a0=>(F58 a0).bind fun x0=>some (decide (x0.2.2=(0:Int)))
abbrev F63A:Zam:=(.cons (.pd Y31) .nil)
abbrev F63R:Zam:=(.cons (.pd Y4) .nil)
def F63S:Tr.Spec:= {args:=F63A,res:=F63R,fns:=[],α:=El Y4,f:=fun x=>F63 x.1,unp:=fun z=>(((),()),(z,())) }
def F63M:List (Nat×List Tr.Spec):=[(38,[F58S])]
def F63H:ZaW:= .leaf
def F63V (a0:El Y31):Option (El Y4):=Zau (mkE tyTab mapTab pkTab [] [] F63M 14 bdTab) (Zai Tryz.f28) Tryz.f28.results F63H F63A F63R (fun y=>y.2.1) (a0,())
theorem F63_eq (a0:El Y31):F63V a0=F63 a0:=by kernel_rfl
theorem F63_ok:ZaU Tryz.prog 28 F63S:=Zac (m:=F63M) (fn:=Tryz.f28) (hint:=F63H) (pack:=fun y=>y.2.1) Za2 tab_ok ⟨⟨F58_ok,trivial⟩,trivial⟩ fun x z h=>(F63_eq x.1).trans h
def F92: (El Y3)→(El Y3)→(El Y3)→Option (El Y4):=fun a0 a1 a2=>Option.bind (bif decide (a1≤a0) then some (decide (a0≤a2)) else some false) fun x0=>some x0
abbrev F92A:Zam:=(.cons (.pd Y3) (.cons (.pd Y3) (.cons (.pd Y3) .nil)))
abbrev F92R:Zam:=(.cons (.pd Y4) .nil)
def F92S:Tr.Spec:= {args:=F92A,res:=F92R,fns:=[],α:=El Y4,f:=fun x=>F92 x.1 x.2.1 x.2.2.1,unp:=fun z=>(((),(),(),()),(z,())) }
def F92M:List (Nat×List Tr.Spec):=[]
def F92H:ZaW:=(.seq .leaf (.seq (.reg [(6,Y4)]) .leaf))
def F92V (a0:El Y3) (a1:El Y3) (a2:El Y3):Option (El Y4):=Zau (mkE tyTab mapTab pkTab [43] [] F92M 15 bdTab) (Zai Tryz.f39) Tryz.f39.results F92H F92A F92R (fun y=>y.2.1) (a0,a1,a2,())
theorem F92_eq (a0:El Y3) (a1:El Y3) (a2:El Y3):F92V a0 a1 a2=F92 a0 a1 a2:=by kernel_rfl
theorem F92_ok:ZaU Tryz.prog 39 F92S:=Zac (m:=F92M) (fn:=Tryz.f39) (hint:=F92H) (pack:=fun y=>y.2.1) Za2 tab_ok trivial fun x z h=>(F92_eq x.1 x.2.1 x.2.2.1).trans h
def F87: (El Y3)→(El Y33)→Option (El Y4):=fun a0 a1=>
 Option.bind
 ((F92 a1.1 (0:Int) (IntKind.wrap .i64 (a0 - (1:Int)))).bind fun x0=>
 bif x0 then
 (F92 a1.2.1 (0:Int) (IntKind.wrap .i64 (a0 - (1:Int)))).bind fun x1=>
 bif x1 then
 (F92 a1.2.2.1 (0:Int) (3155932800:Int)).bind fun x2=>
 bif x2 then
 (F92 a1.2.2.2.2.1 (0:Int) (8:Int)).bind fun x3=>
 bif x3 then
 (F92 a1.2.2.2.2.2.1 (0:Int) (86400:Int)).bind fun x4=>
 bif x4 then
 (F92 a1.2.2.2.2.2.2.2.2.1 (0:Int) (255:Int)).bind fun x5=>
 bif x5 then bif a1.2.2.2.2.2.2.2.2.2.1 then some !a1.2.2.2.1 else some !false else some false
 else some false
 else some false
 else some false
 else some false
 else some false)
 fun x6=>some x6
abbrev F87A:Zam:=(.cons (.pd Y3) (.cons (.pd Y33) .nil))
abbrev F87R:Zam:=(.cons (.pd Y4) .nil)
def F87S:Tr.Spec:= {args:=F87A,res:=F87R,fns:=[],α:=El Y4,f:=fun x=>F87 x.1 x.2.1,unp:=fun z=>(((),(),()),(z,())) }
def F87M:List (Nat×List Tr.Spec):=[(39,[F92S])]
def F87H:ZaW:=(.seq .leaf (.seq (.reg [(4,Y4)]) .leaf))
def F87V (a0:El Y3) (a1:El Y33):Option (El Y4):=Zau (mkE tyTab mapTab pkTab [43] [] F87M 46 bdTab) (Zai Tryz.f29) Tryz.f29.results F87H F87A F87R (fun y=>y.2.1) (a0,a1,())
theorem F87_eq (a0:El Y3) (a1:El Y33):F87V a0 a1=F87 a0 a1:=by kernel_rfl
theorem F87_ok:ZaU Tryz.prog 29 F87S:=Zac (m:=F87M) (fn:=Tryz.f29) (hint:=F87H) (pack:=fun y=>y.2.1) Za2 tab_ok ⟨⟨F92_ok,trivial⟩,trivial⟩ fun x z h=>(F87_eq x.1 x.2.1).trans h
def F84: (El Y31)→(El Y33)→Option (El Y36):=fun a0 a1=>
 (F63 a0).bind fun x0=>
 bif !x0 then some (21:Int) else (F87 (↑(List.length a0.1):Int) a1).bind fun x1=>bif !x1 then some (22:Int) else some (0:Int)
abbrev F84A:Zam:=(.cons (.pd Y31) (.cons (.pd Y33) .nil))
abbrev F84R:Zam:=(.cons (.pd Y36) .nil)
def F84S:Tr.Spec:= {args:=F84A,res:=F84R,fns:=[],α:=El Y36,f:=fun x=>F84 x.1 x.2.1,unp:=fun z=>(((),(),()),(z,())) }
def F84M:List (Nat×List Tr.Spec):=[(28,[F63S]),(29,[F87S])]
def F84H:ZaW:= .leaf
def F84V (a0:El Y31) (a1:El Y33):Option (El Y36):=Zau (mkE tyTab mapTab pkTab [43] [] F84M 14 bdTab) (Zai Tryz.f13) Tryz.f13.results F84H F84A F84R (fun y=>y.2.1) (a0,a1,())
theorem F84_eq (a0:El Y31) (a1:El Y33):F84V a0 a1=F84 a0 a1:=by kernel_rfl
theorem F84_ok:ZaU Tryz.prog 13 F84S:=Zac (m:=F84M) (fn:=Tryz.f13) (hint:=F84H) (pack:=fun y=>y.2.1) Za2 tab_ok ⟨⟨F63_ok,trivial⟩,⟨F87_ok,trivial⟩,trivial⟩ fun x z h=>(F84_eq x.1 x.2.1).trans h
def F97: (El Y33)→(El Y43)→Option (El Y3):=fun a0 a1=>
 bif decide ((↑(List.length a1.1):Int)=(0:Int)) then some a0.2.2.1
 else (idx a1.1 (IntKind.wrap .i64 ((↑(List.length a1.1):Int) - (1:Int)))).bind fun x0=>some x0.2.2.2.2.2.2.2.1
abbrev F97A:Zam:=(.cons (.pd Y33) (.cons (.pd Y43) .nil))
abbrev F97R:Zam:=(.cons (.pd Y3) .nil)
def F97S:Tr.Spec:= {args:=F97A,res:=F97R,fns:=[],α:=El Y3,f:=fun x=>F97 x.1 x.2.1,unp:=fun z=>(((),(),()),(z,())) }
def F97M:List (Nat×List Tr.Spec):=[]
def F97H:ZaW:= .leaf
def F97V (a0:El Y33) (a1:El Y43):Option (El Y3):=Zau (mkE tyTab mapTab pkTab [] [] F97M 20 bdTab) (Zai Tryz.f21) Tryz.f21.results F97H F97A F97R (fun y=>y.2.1) (a0,a1,())
theorem F97_eq (a0:El Y33) (a1:El Y43):F97V a0 a1=F97 a0 a1:=by kernel_rfl
theorem F97_ok:ZaU Tryz.prog 21 F97S:=Zac (m:=F97M) (fn:=Tryz.f21) (hint:=F97H) (pack:=fun y=>y.2.1) Za2 tab_ok trivial fun x z h=>(F97_eq x.1 x.2.1).trans h
def F62: (El Y31)→Option (El Y4):=fun a0=>
 Option.bind
 (bif decide ((5:Int)< (↑(List.length a0.1):Int)) then some true
 else
 bif decide ((7:Int)< (↑(List.length a0.2.2.1):Int)) then some true
 else
 bif decide ((30:Int)< (↑(List.length a0.2.2.2.1):Int)) then some true
 else some (decide ((60:Int)< (↑(List.length a0.2.2.2.2.1):Int))))
 fun x0=>
 bif x0 then some false
 else
 Option.bind
 (run
 (fun s1=>
 bif decide (s1< (↑(List.length a0.2.2.1):Int)) then
 (idx a0.2.2.1 s1).bind fun x2=>
 bif decide ((6:Int)< (↑(List.length x2.2.2.2.2.2.2.2.1):Int)) then some (.inr (.inr false))
 else some (.inl (IntKind.wrap .i64 (s1+(1:Int))))
 else some (.inr (.inl ())))
 (0:Int))
 fun x3=>Sum.elim (fun _=>(F63 a0).bind fun x5=>some x5) (fun y6=>some y6) x3
abbrev F62A:Zam:=(.cons (.pd Y31) .nil)
abbrev F62R:Zam:=(.cons (.pd Y4) .nil)
def F62S:Tr.Spec:= {args:=F62A,res:=F62R,fns:=[],α:=El Y4,f:=fun x=>F62 x.1,unp:=fun z=>(((),()),(z,())) }
def F62M:List (Nat×List Tr.Spec):=[(28,[F63S])]
def F62H:ZaW:=(.seq .leaf (.seq (.seq (.reg [(25,Y4)]) .leaf) (.seq (.seq .leaf (.lp ⟨[(3,(.pd Y3))],[],[1],[],[],[]⟩ [((.exit 0),⟨[],[],[1],[],[],[]⟩),(.ret,⟨[(2,(.pd Y4))],[],[],[],[],[]⟩)] .leaf)) .leaf)))
def F62V (a0:El Y31):Option (El Y4):=Zau (mkE tyTab mapTab pkTab [] [] F62M 43 bdTab) (Zai Tryz.f32) Tryz.f32.results F62H F62A F62R (fun y=>y.2.1) (a0,())
theorem F62_eq (a0:El Y31):F62V a0=F62 a0:=by kernel_rfl
theorem F62_ok:ZaU Tryz.prog 32 F62S:=Zac (m:=F62M) (fn:=Tryz.f32) (hint:=F62H) (pack:=fun y=>y.2.1) Za2 tab_ok ⟨⟨F63_ok,trivial⟩,trivial⟩ fun x z h=>(F62_eq x.1).trans h
def F31: (El Y31)→(El Y33)→Option (El Y4):=fun a0 a1=>
 Option.bind
 ((F62 a0).bind fun x0=>
 bif x0 then
 (F87 (↑(List.length a0.1):Int) a1).bind fun x1=>
 bif x1 then bif !a1.2.2.2.1 then some (decide (a1.2.2.2.2.1≤(3:Int))) else some false else some false
 else some false)
 fun x2=>some x2
abbrev F31A:Zam:=(.cons (.pd Y31) (.cons (.pd Y33) .nil))
abbrev F31R:Zam:=(.cons (.pd Y4) .nil)
def F31S:Tr.Spec:= {args:=F31A,res:=F31R,fns:=[],α:=El Y4,f:=fun x=>F31 x.1 x.2.1,unp:=fun z=>(((),(),()),(z,())) }
def F31M:List (Nat×List Tr.Spec):=[(29,[F87S]),(32,[F62S])]
def F31H:ZaW:=(.seq .leaf (.seq (.reg [(4,Y4)]) .leaf))
def F31V (a0:El Y31) (a1:El Y33):Option (El Y4):=Zau (mkE tyTab mapTab pkTab [] [] F31M 24 bdTab) (Zai Tryz.f17) Tryz.f17.results F31H F31A F31R (fun y=>y.2.1) (a0,a1,())
theorem F31_eq (a0:El Y31) (a1:El Y33):F31V a0 a1=F31 a0 a1:=by kernel_rfl
theorem F31_ok:ZaU Tryz.prog 17 F31S:=Zac (m:=F31M) (fn:=Tryz.f17) (hint:=F31H) (pack:=fun y=>y.2.1) Za2 tab_ok ⟨⟨F87_ok,trivial⟩,⟨F62_ok,trivial⟩,trivial⟩ fun x z h=>(F31_eq x.1 x.2.1).trans h
def F94: (El Y31)→(El Y66)→(El Y66)→(El Y4)→Option (El Y4):=fun a0 a1 a2 a3=>
 Option.bind
 (run
 (fun s0=>
 bif decide (s0< (↑(List.length a0.2.2.2.1):Int)) then
 (idx a0.2.2.2.1 s0).bind fun x1=>
 Option.bind
 (bif decide (x1.1=a1.2.1) then
 bif decide (x1.2.1=a1.2.2.2.1) then
 bif decide (x1.2.2.1=a2.2.1) then
 bif decide (x1.2.2.2.1=a2.2.2.1) then some (x1.2.2.2.2.1==a3) else some false
 else some false
 else some false
 else some false)
 fun x2=>bif x2 then some (.inr (.inr true)) else some (.inl (IntKind.wrap .i64 (s0+(1:Int))))
 else some (.inr (.inl ())))
 (0:Int))
 fun x3=>Sum.elim (fun _=>some false) (fun y5=>some y5) x3
abbrev F94A:Zam:=(.cons (.pd Y31) (.cons (.pd Y66) (.cons (.pd Y66) (.cons (.pd Y4) .nil))))
abbrev F94R:Zam:=(.cons (.pd Y4) .nil)
def F94S:Tr.Spec:= {args:=F94A,res:=F94R,fns:=[],α:=El Y4,f:=fun x=>F94 x.1 x.2.1 x.2.2.1 x.2.2.2.1,unp:=fun z=>(((),(),(),(),()),(z,())) }
def F94M:List (Nat×List Tr.Spec):=[]
def F94H:ZaW:=(.seq .leaf (.seq (.seq .leaf (.lp ⟨[(9,(.pd Y3))],[],[3,4,5,6],[],[],[]⟩ [((.exit 0),⟨[],[],[],[],[],[]⟩),(.ret,⟨[(8,(.pd Y4))],[],[],[],[],[]⟩)] (.seq .leaf (.seq (.seq .leaf (.seq (.reg [(54,Y4)]) .leaf)) .leaf)))) .leaf))
def F94V (a0:El Y31) (a1:El Y66) (a2:El Y66) (a3:El Y4):Option (El Y4):=Zau (mkE tyTab mapTab pkTab [43] [] F94M 55 bdTab) (Zai Tryz.f103) Tryz.f103.results F94H F94A F94R (fun y=>y.2.1) (a0,a1,a2,a3,())
theorem F94_eq (a0:El Y31) (a1:El Y66) (a2:El Y66) (a3:El Y4):F94V a0 a1 a2 a3=F94 a0 a1 a2 a3:=by kernel_rfl
theorem F94_ok:ZaU Tryz.prog 103 F94S:=Zac (m:=F94M) (fn:=Tryz.f103) (hint:=F94H) (pack:=fun y=>y.2.1) Za2 tab_ok trivial fun x z h=>(F94_eq x.1 x.2.1 x.2.2.1 x.2.2.2.1).trans h
def F91: (El Y31)→(El Y66)→(El Y66)→Option (El Y36):=fun a0 a1 a2=>
 bif !decide (a1.2.2.2.2.2.1=a2.2.2.2.2.1) then some (24:Int)
 else
 Option.bind (bif !a1.1 then some !a2.1 else some false) fun x0=>
 bif x0 then some (32:Int)
 else
 bif a2.2.2.2.2.2.2.2.2.1 then
 Option.bind (bif !a1.1 then some true else (F94 a0 a1 a2 true).bind fun x1=>some !x1) fun x2=>
 bif x2 then some (19:Int) else bif decide (a2.2.2.2.2.2.2.1<a1.2.2.2.2.2.2.2.1) then some (10:Int) else some (0:Int)
 else
 bif !a2.1 then bif !decide (a2.2.2.2.2.2.2.1=a1.2.2.2.2.2.2.2.1) then some (10:Int) else some (0:Int)
 else
 bif !a1.1 then bif decide (a2.2.2.2.2.2.2.1<a1.2.2.2.2.2.2.2.1) then some (28:Int) else some (0:Int)
 else
 Option.bind
 ((idx a0.1 a1.2.2.2.2.2.1).bind fun x3=>
 bif decide (IntKind.wrap .i64 (a1.2.2.2.2.2.2.2.1+x3.2.2.2.1)≤a2.2.2.2.2.2.2.1) then some true
 else
 (F94 a0 a1 a2 false).bind fun x4=>
 bif x4 then some (decide (a1.2.2.2.2.2.2.2.1≤a2.2.2.2.2.2.2.1)) else some false)
 fun x5=>bif x5 then some (0:Int) else some (28:Int)
abbrev F91A:Zam:=(.cons (.pd Y31) (.cons (.pd Y66) (.cons (.pd Y66) .nil)))
abbrev F91R:Zam:=(.cons (.pd Y36) .nil)
def F91S:Tr.Spec:= {args:=F91A,res:=F91R,fns:=[],α:=El Y36,f:=fun x=>F91 x.1 x.2.1 x.2.2.1,unp:=fun z=>(((),(),(),()),(z,())) }
def F91M:List (Nat×List Tr.Spec):=[(103,[F94S])]
def F91H:ZaW:=(.seq .leaf (.seq .leaf (.seq (.seq (.reg [(19,Y4)]) .leaf) (.seq (.seq .leaf (.cnd none (.seq (.seq (.reg [(31,Y4)]) .leaf) .leaf) .leaf)) (.seq .leaf (.seq .leaf (.seq (.seq (.reg [(78,Y4)]) .leaf) .leaf)))))))
def F91V (a0:El Y31) (a1:El Y66) (a2:El Y66):Option (El Y36):=Zau (mkE tyTab mapTab pkTab [43] [] F91M 79 bdTab) (Zai Tryz.f74) Tryz.f74.results F91H F91A F91R (fun y=>y.2.1) (a0,a1,a2,())
theorem F91_eq (a0:El Y31) (a1:El Y66) (a2:El Y66):F91V a0 a1 a2=F91 a0 a1 a2:=by kernel_rfl
theorem F91_ok:ZaU Tryz.prog 74 F91S:=Zac (m:=F91M) (fn:=Tryz.f74) (hint:=F91H) (pack:=fun y=>y.2.1) Za2 tab_ok ⟨⟨F94_ok,trivial⟩,trivial⟩ fun x z h=>(F91_eq x.1 x.2.1 x.2.2.1).trans h
def F75: (El Y31)→(El Y66)→Option (El Y4):=fun a0 a1=>
 Option.bind (bif decide (a1.2.1< (0:Int)) then some true else some (decide ((↑(List.length a0.2.2.1):Int)≤a1.2.1))) fun x0=>
 bif x0 then some false
 else
 Option.bind
 (bif decide ((0:Int)≤a1.2.2.1) then
 bif decide (a1.2.2.1<a1.2.2.2.1) then
 (idx a0.2.2.1 a1.2.1).bind fun x1=>some (decide (a1.2.2.2.1< (↑(List.length x1.2.2.2.2.2.2.2.1):Int)))
 else some false
 else some false)
 fun x2=>some x2
abbrev F75A:Zam:=(.cons (.pd Y31) (.cons (.pd Y66) .nil))
abbrev F75R:Zam:=(.cons (.pd Y4) .nil)
def F75S:Tr.Spec:= {args:=F75A,res:=F75R,fns:=[],α:=El Y4,f:=fun x=>F75 x.1 x.2.1,unp:=fun z=>(((),(),()),(z,())) }
def F75M:List (Nat×List Tr.Spec):=[]
def F75H:ZaW:=(.seq .leaf (.seq (.seq (.reg [(15,Y4)]) .leaf) (.seq (.reg [(4,Y4)]) .leaf)))
def F75V (a0:El Y31) (a1:El Y66):Option (El Y4):=Zau (mkE tyTab mapTab pkTab [] [] F75M 39 bdTab) (Zai Tryz.f104) Tryz.f104.results F75H F75A F75R (fun y=>y.2.1) (a0,a1,())
theorem F75_eq (a0:El Y31) (a1:El Y66):F75V a0 a1=F75 a0 a1:=by kernel_rfl
theorem F75_ok:ZaU Tryz.prog 104 F75S:=Zac (m:=F75M) (fn:=Tryz.f104) (hint:=F75H) (pack:=fun y=>y.2.1) Za2 tab_ok trivial fun x z h=>(F75_eq x.1 x.2.1).trans h
def F86: (El Y31)→(El Y33)→(El Y3)→Option (El Y4):=fun a0 a1 a2=>Option.bind (bif !a1.2.2.2.2.2.2.1 then some true else (idx a0.1 a2).bind fun x0=>some x0.2.2.1) fun x1=>some x1
abbrev F86A:Zam:=(.cons (.pd Y31) (.cons (.pd Y33) (.cons (.pd Y3) .nil)))
abbrev F86R:Zam:=(.cons (.pd Y4) .nil)
def F86S:Tr.Spec:= {args:=F86A,res:=F86R,fns:=[],α:=El Y4,f:=fun x=>F86 x.1 x.2.1 x.2.2.1,unp:=fun z=>(((),(),(),()),(z,())) }
def F86M:List (Nat×List Tr.Spec):=[]
def F86H:ZaW:=(.seq .leaf (.seq (.reg [(6,Y4)]) .leaf))
def F86V (a0:El Y31) (a1:El Y33) (a2:El Y3):Option (El Y4):=Zau (mkE tyTab mapTab pkTab [43] [] F86M 18 bdTab) (Zai Tryz.f77) Tryz.f77.results F86H F86A F86R (fun y=>y.2.1) (a0,a1,a2,())
theorem F86_eq (a0:El Y31) (a1:El Y33) (a2:El Y3):F86V a0 a1 a2=F86 a0 a1 a2:=by kernel_rfl
theorem F86_ok:ZaU Tryz.prog 77 F86S:=Zac (m:=F86M) (fn:=Tryz.f77) (hint:=F86H) (pack:=fun y=>y.2.1) Za2 tab_ok trivial fun x z h=>(F86_eq x.1 x.2.1 x.2.2.1).trans h
def F95: (El Y31)→(El Y33)→(El Y66)→Option (El Y36):=fun a0 a1 a2=>
 (idx a0.2.2.1 a2.2.1).bind fun x0=>
 (idx x0.2.2.2.2.2.2.2.1 a2.2.2.1).bind fun x1=>
 (idx x0.2.2.2.2.2.2.2.1 a2.2.2.2.1).bind fun x2=>
 (idx a0.2.1 x0.2.2.2.2.1).bind fun x3=>
 Option.bind (bif !decide (x1.1=a2.2.2.2.2.1) then some true else some !decide (x2.1=a2.2.2.2.2.2.1)) fun x4=>
 bif x4 then some (24:Int)
 else
 Option.bind
 (bif !decide (x1.2.2.1=a2.2.2.2.2.2.2.1) then some true
 else some !decide (x2.2.1=a2.2.2.2.2.2.2.2.1))
 fun x5=>
 bif x5 then some (10:Int)
 else
 bif x0.2.2.2.2.2.2.1 then some (27:Int)
 else
 Option.bind (bif a1.2.2.2.2.2.2.1 then some !x0.2.2.2.2.2.1 else some false) fun x6=>
 bif x6 then some (29:Int)
 else
 Option.bind (bif a1.2.2.2.2.2.2.2.1 then some !x3.2.2.1 else some false) fun x7=>
 bif x7 then some (30:Int)
 else
 Option.bind
 (bif !decide (a1.2.2.2.2.2.2.2.2.1=(0:Int)) then
 Option.bind (ZqA .i64 a1.2.2.2.2.2.2.2.2.1 x3.2.1) fun x8=>
 some (decide (Zn5 .i64 x8 (1:Int)=(0:Int)))
 else some false)
 fun x9=>
 bif x9 then some (31:Int)
 else
 Option.bind (bif !a2.2.2.2.2.2.2.2.2.1 then some !x1.2.2.2.1 else some false) fun x10=>
 bif x10 then some (25:Int)
 else
 Option.bind
 (bif !a2.2.2.2.2.2.2.2.2.1 then (F86 a0 a1 a2.2.2.2.2.1).bind fun x11=>some !x11 else some false)
 fun x12=>bif x12 then some (29:Int) else some (0:Int)
abbrev F95A:Zam:=(.cons (.pd Y31) (.cons (.pd Y33) (.cons (.pd Y66) .nil)))
abbrev F95R:Zam:=(.cons (.pd Y36) .nil)
def F95S:Tr.Spec:= {args:=F95A,res:=F95R,fns:=[],α:=El Y36,f:=fun x=>F95 x.1 x.2.1 x.2.2.1,unp:=fun z=>(((),(),(),()),(z,())) }
def F95M:List (Nat×List Tr.Spec):=[(77,[F86S])]
def F95H:ZaW:=(.seq .leaf (.seq .leaf (.seq .leaf (.seq .leaf (.seq (.seq (.reg [(46,Y4)]) .leaf) (.seq (.seq (.reg [(58,Y4)]) .leaf) (.seq .leaf (.seq (.seq (.reg [(67,Y4)]) .leaf) (.seq (.seq (.reg [(74,Y4)]) .leaf) (.seq (.seq (.reg [(86,Y4)]) .leaf) (.seq (.seq (.reg [(94,Y4)]) .leaf) (.seq (.seq (.reg [(105,Y4)]) .leaf) .leaf))))))))))))
def F95V (a0:El Y31) (a1:El Y33) (a2:El Y66):Option (El Y36):=Zau (mkE tyTab mapTab pkTab [43] [] F95M 106 bdTab) (Zai Tryz.f105) Tryz.f105.results F95H F95A F95R (fun y=>y.2.1) (a0,a1,a2,())
theorem F95_eq (a0:El Y31) (a1:El Y33) (a2:El Y66):F95V a0 a1 a2=F95 a0 a1 a2:=by kernel_rfl
theorem F95_ok:ZaU Tryz.prog 105 F95S:=Zac (m:=F95M) (fn:=Tryz.f105) (hint:=F95H) (pack:=fun y=>y.2.1) Za2 tab_ok ⟨⟨F86_ok,trivial⟩,trivial⟩ fun x z h=>(F95_eq x.1 x.2.1 x.2.2.1).trans h
def F96: (El Y31)→(El Y33)→(El Y66)→Option (El Y36):=fun a0 a1 a2=>
 Option.bind
 (run
 (fun s0=>
 bif decide (s0.2< (↑(List.length a0.2.2.2.2.1):Int)) then
 (idx a0.2.2.2.2.1 s0.2).bind fun x1=>
 Option.bind
 (bif !decide (x1.1=a2.2.2.2.2.1) then some true
 else
 bif !decide (x1.2.1=a2.2.2.2.2.2.1) then some true
 else some !decide (x1.2.2.1=IntKind.wrap .i64 (a2.2.2.2.2.2.2.2.1 - a2.2.2.2.2.2.2.1)))
 fun x2=>
 bif x2 then some (.inl (s0.1,IntKind.wrap .i64 (s0.2+(1:Int))))
 else
 Option.bind (bif x1.2.2.2.1 then some true else some !a1.2.2.2.2.2.2.1) fun x3=>
 bif x3 then some (.inr (.inr (0:Int))) else some (.inl ((29:Int),IntKind.wrap .i64 (s0.2+(1:Int))))
 else some (.inr (.inl s0.1)))
 ((18:Int),(0:Int)))
 fun x4=>Sum.elim (fun y5=>some y5) (fun y6=>some y6) x4
abbrev F96A:Zam:=(.cons (.pd Y31) (.cons (.pd Y33) (.cons (.pd Y66) .nil)))
abbrev F96R:Zam:=(.cons (.pd Y36) .nil)
def F96S:Tr.Spec:= {args:=F96A,res:=F96R,fns:=[],α:=El Y36,f:=fun x=>F96 x.1 x.2.1 x.2.2.1,unp:=fun z=>(((),(),(),()),(z,())) }
def F96M:List (Nat×List Tr.Spec):=[]
def F96H:ZaW:=(.seq .leaf (.seq .leaf (.seq (.seq .leaf (.lp ⟨[(7,(.pd Y36)),(8,(.pd Y3))],[],[3,4,5],[],[],[]⟩ [((.exit 0),⟨[(7,(.pd Y36))],[],[],[],[],[]⟩),(.ret,⟨[(6,(.pd Y36))],[],[],[],[],[]⟩)] (.seq .leaf (.seq (.seq .leaf (.seq (.seq (.reg [(43,Y4)]) .leaf) (.seq (.seq (.reg [(50,Y4)]) .leaf) .leaf))) .leaf)))) .leaf)))
def F96V (a0:El Y31) (a1:El Y33) (a2:El Y66):Option (El Y36):=Zau (mkE tyTab mapTab pkTab [43] [] F96M 52 bdTab) (Zai Tryz.f106) Tryz.f106.results F96H F96A F96R (fun y=>y.2.1) (a0,a1,a2,())
theorem F96_eq (a0:El Y31) (a1:El Y33) (a2:El Y66):F96V a0 a1 a2=F96 a0 a1 a2:=by kernel_rfl
theorem F96_ok:ZaU Tryz.prog 106 F96S:=Zac (m:=F96M) (fn:=Tryz.f106) (hint:=F96H) (pack:=fun y=>y.2.1) Za2 tab_ok trivial fun x z h=>(F96_eq x.1 x.2.1 x.2.2.1).trans h
def F93: (El Y31)→(El Y33)→(El Y66)→Option (El Y36):=fun a0 a1 a2=>
 Option.bind
 ((F92 a2.2.2.2.2.1 (0:Int) (IntKind.wrap .i64 ((↑(List.length a0.1):Int) - (1:Int)))).bind fun x0=>
 bif !x0 then some true
 else (F92 a2.2.2.2.2.2.1 (0:Int) (IntKind.wrap .i64 ((↑(List.length a0.1):Int) - (1:Int)))).bind fun x1=>some !x1)
 fun x2=>
 bif x2 then some (9:Int)
 else
 Option.bind
 (bif a2.1 then
 (F75 a0 a2).bind fun x3=>
 bif !x3 then some true
 else
 bif !a2.1 then
 bif !decide (a2.2.1=(0:Int)) then some true
 else
 bif !decide (a2.2.2.1=(0:Int)) then some true
 else bif !decide (a2.2.2.2.1=(0:Int)) then some true else some a2.2.2.2.2.2.2.2.2.1
 else some false
 else
 bif !a2.1 then
 bif !decide (a2.2.1=(0:Int)) then some true
 else
 bif !decide (a2.2.2.1=(0:Int)) then some true
 else bif !decide (a2.2.2.2.1=(0:Int)) then some true else some a2.2.2.2.2.2.2.2.2.1
 else some false)
 fun x4=>
 bif x4 then some (9:Int)
 else
 Option.bind
 ((F92 a2.2.2.2.2.2.2.1 (0:Int) (3155932800:Int)).bind fun x5=>
 bif !x5 then some true else (F92 a2.2.2.2.2.2.2.2.1 (0:Int) (3155932800:Int)).bind fun x6=>some !x6)
 fun x7=>
 bif x7 then some (10:Int) else bif a2.1 then (F95 a0 a1 a2).bind fun x8=>some x8 else (F96 a0 a1 a2).bind fun x9=>some x9
abbrev F93A:Zam:=(.cons (.pd Y31) (.cons (.pd Y33) (.cons (.pd Y66) .nil)))
abbrev F93R:Zam:=(.cons (.pd Y36) .nil)
def F93S:Tr.Spec:= {args:=F93A,res:=F93R,fns:=[],α:=El Y36,f:=fun x=>F93 x.1 x.2.1 x.2.2.1,unp:=fun z=>(((),(),(),()),(z,())) }
def F93M:List (Nat×List Tr.Spec):=[(39,[F92S]),(104,[F75S]),(105,[F95S]),(106,[F96S])]
def F93H:ZaW:=(.seq .leaf (.seq (.seq (.reg [(24,Y4)]) .leaf) (.seq (.seq (.reg [(56,Y4)]) .leaf) (.seq (.seq (.reg [(66,Y4)]) .leaf) .leaf))))
def F93V (a0:El Y31) (a1:El Y33) (a2:El Y66):Option (El Y36):=Zau (mkE tyTab mapTab pkTab [43] [] F93M 77 bdTab) (Zai Tryz.f75) Tryz.f75.results F93H F93A F93R (fun y=>y.2.1) (a0,a1,a2,())
theorem F93_eq (a0:El Y31) (a1:El Y33) (a2:El Y66):F93V a0 a1 a2=F93 a0 a1 a2:=by kernel_rfl
theorem F93_ok:ZaU Tryz.prog 75 F93S:=Zac (m:=F93M) (fn:=Tryz.f75) (hint:=F93H) (pack:=fun y=>y.2.1) Za2 tab_ok ⟨⟨F92_ok,trivial⟩,⟨F75_ok,trivial⟩,⟨F95_ok,trivial⟩,⟨F96_ok,trivial⟩,trivial⟩ fun x z h=>(F93_eq x.1 x.2.1 x.2.2.1).trans h
def F90: (El Y31)→(El Y33)→(El Y43)→Option (El Y36):=fun a0 a1 a2=>
 (idx a2.1 (0:Int)).bind fun x0=>
 bif !decide (x0.2.2.2.2.1=a1.1) then some (24:Int)
 else
 bif x0.2.2.2.2.2.2.2.2.1 then some (19:Int)
 else
 Option.bind
 (bif !x0.1 then
 bif decide ((1:Int)< (↑(List.length a2.1):Int)) then
 (idx a2.1 (1:Int)).bind fun x1=>
 bif x1.1 then (idx a2.1 (1:Int)).bind fun x2=>some !decide (x2.2.2.2.2.2.2.1=x0.2.2.2.2.2.2.2.1)
 else some false
 else some false
 else some false)
 fun x3=>
 bif x3 then some (10:Int)
 else
 Option.bind
 (bif !x0.1 then
 bif decide ((↑(List.length a2.1):Int)=(1:Int)) then
 bif a1.2.2.2.1 then
 bif !decide (x0.2.2.2.2.2.2.2.1=a1.2.2.1) then some true
 else bif !a1.2.2.2.1 then some !decide (x0.2.2.2.2.2.2.1=a1.2.2.1) else some false
 else bif !a1.2.2.2.1 then some !decide (x0.2.2.2.2.2.2.1=a1.2.2.1) else some false
 else some false
 else some false)
 fun x4=>
 bif x4 then some (10:Int)
 else
 Option.bind (bif !a1.2.2.2.1 then some (decide (x0.2.2.2.2.2.2.1<a1.2.2.1)) else some false) fun x5=>
 bif x5 then some (10:Int)
 else
 Option.bind
 (bif a1.2.2.2.2.2.2.2.2.2.1 then
 bif x0.1 then
 (idx a0.1 a1.1).bind fun x6=>
 some (decide (x0.2.2.2.2.2.2.1<IntKind.wrap .i64 (a1.2.2.1+x6.2.2.2.1)))
 else some false
 else some false)
 fun x7=>bif x7 then some (28:Int) else some (0:Int)
abbrev F90A:Zam:=(.cons (.pd Y31) (.cons (.pd Y33) (.cons (.pd Y43) .nil)))
abbrev F90R:Zam:=(.cons (.pd Y36) .nil)
def F90S:Tr.Spec:= {args:=F90A,res:=F90R,fns:=[],α:=El Y36,f:=fun x=>F90 x.1 x.2.1 x.2.2.1,unp:=fun z=>(((),(),(),()),(z,())) }
def F90M:List (Nat×List Tr.Spec):=[]
def F90H:ZaW:=(.seq .leaf (.seq .leaf (.seq .leaf (.seq .leaf (.seq (.seq (.reg [(44,Y4)]) .leaf) (.seq (.seq (.reg [(76,Y4)]) .leaf) (.seq (.seq (.reg [(86,Y4)]) .leaf) (.seq (.seq (.reg [(107,Y4)]) .leaf) .leaf))))))))
def F90V (a0:El Y31) (a1:El Y33) (a2:El Y43):Option (El Y36):=Zau (mkE tyTab mapTab pkTab [43] [] F90M 108 bdTab) (Zai Tryz.f76) Tryz.f76.results F90H F90A F90R (fun y=>y.2.1) (a0,a1,a2,())
theorem F90_eq (a0:El Y31) (a1:El Y33) (a2:El Y43):F90V a0 a1 a2=F90 a0 a1 a2:=by kernel_rfl
theorem F90_ok:ZaU Tryz.prog 76 F90S:=Zac (m:=F90M) (fn:=Tryz.f76) (hint:=F90H) (pack:=fun y=>y.2.1) Za2 tab_ok trivial fun x z h=>(F90_eq x.1 x.2.1 x.2.2.1).trans h
def F88: (El Y31)→(El Y33)→(El Y43)→(El Y3)→Option (El Y36):=fun a0 a1 a2 a3=>
 (idx a2.1 a3).bind fun x0=>
 (F93 a0 a1 x0).bind fun x1=>
 bif !decide (x1=(0:Int)) then some x1
 else
 Option.bind
 (bif decide (a3=(0:Int)) then (F90 a0 a1 a2).bind fun x2=>some x2
 else (idx a2.1 (IntKind.wrap .i64 (a3 - (1:Int)))).bind fun x3=>(F91 a0 x3 x0).bind fun x4=>some x4)
 fun x5=>
 bif !decide (x5=(0:Int)) then some x5
 else
 Option.bind
 (bif x0.1 then
 bif decide (IntKind.wrap .i64 (a3+(1:Int))=(↑(List.length a2.1):Int)) then some true
 else (idx a2.1 (IntKind.wrap .i64 (a3+(1:Int)))).bind fun x6=>some !x6.2.2.2.2.2.2.2.2.1
 else some false)
 fun x7=>
 bif x7 then
 (idx a0.2.2.1 x0.2.1).bind fun x8=>
 (idx x8.2.2.2.2.2.2.2.1 x0.2.2.2.1).bind fun x9=>
 bif !x9.2.2.2.2.1 then some (26:Int)
 else (F86 a0 a1 x0.2.2.2.2.2.1).bind fun x10=>bif !x10 then some (29:Int) else some (0:Int)
 else some (0:Int)
abbrev F88A:Zam:=(.cons (.pd Y31) (.cons (.pd Y33) (.cons (.pd Y43) (.cons (.pd Y3) .nil))))
abbrev F88R:Zam:=(.cons (.pd Y36) .nil)
def F88S:Tr.Spec:= {args:=F88A,res:=F88R,fns:=[],α:=El Y36,f:=fun x=>F88 x.1 x.2.1 x.2.2.1 x.2.2.2.1,unp:=fun z=>(((),(),(),(),()),(z,())) }
def F88M:List (Nat×List Tr.Spec):=[(74,[F91S]),(75,[F93S]),(76,[F90S]),(77,[F86S])]
def F88H:ZaW:=(.seq .leaf (.seq .leaf (.seq .leaf (.seq .leaf (.seq (.seq .leaf (.cnd (some (⟨[],[],[3,4,5,6,9],[],[],[]⟩,[(.normal,⟨[(10,(.pd Y36))],[],[3,4,5,6,9],[],[],[]⟩)])) .leaf .leaf)) (.seq .leaf (.seq (.seq (.reg [(60,Y4)]) .leaf) .leaf)))))))
def F88V (a0:El Y31) (a1:El Y33) (a2:El Y43) (a3:El Y3):Option (El Y36):=Zau (mkE tyTab mapTab pkTab [43] [] F88M 80 bdTab) (Zai Tryz.f51) Tryz.f51.results F88H F88A F88R (fun y=>y.2.1) (a0,a1,a2,a3,())
theorem F88_eq (a0:El Y31) (a1:El Y33) (a2:El Y43) (a3:El Y3):F88V a0 a1 a2 a3=F88 a0 a1 a2 a3:=by kernel_rfl
theorem F88_ok:ZaU Tryz.prog 51 F88S:=Zac (m:=F88M) (fn:=Tryz.f51) (hint:=F88H) (pack:=fun y=>y.2.1) Za2 tab_ok ⟨⟨F91_ok,trivial⟩,⟨F93_ok,trivial⟩,⟨F90_ok,trivial⟩,⟨F86_ok,trivial⟩,trivial⟩ fun x z h=>(F88_eq x.1 x.2.1 x.2.2.1 x.2.2.2.1).trans h
def F79: (El Y43)→Option (El Y3):=fun a0=>
 Option.bind
 (run
 (fun s0=>
 bif decide (s0.2< (↑(List.length a0.1):Int)) then
 (idx a0.1 s0.2).bind fun x1=>
 Option.bind
 (bif !x1.1 then
 bif decide ((0:Int)≤x1.2.2.2.2.2.2.1) then
 bif decide (x1.2.2.2.2.2.2.1≤x1.2.2.2.2.2.2.2.1) then
 some (decide (IntKind.wrap .i64 (x1.2.2.2.2.2.2.2.1 - x1.2.2.2.2.2.2.1)≤(14400:Int)))
 else some false
 else some false
 else some false)
 fun x2=>
 bif x2 then
 some
 (.inl
 (IntKind.wrap .i64 (IntKind.wrap .i64 (s0.1+x1.2.2.2.2.2.2.2.1) - x1.2.2.2.2.2.2.1),
 IntKind.wrap .i64 (s0.2+(1:Int))))
 else some (.inl (s0.1,IntKind.wrap .i64 (s0.2+(1:Int))))
 else some (.inr s0.1))
 ((0:Int),(0:Int)))
 fun x3=>some x3
abbrev F79A:Zam:=(.cons (.pd Y43) .nil)
abbrev F79R:Zam:=(.cons (.pd Y3) .nil)
def F79S:Tr.Spec:= {args:=F79A,res:=F79R,fns:=[],α:=El Y3,f:=fun x=>F79 x.1,unp:=fun z=>(((),()),(z,())) }
def F79M:List (Nat×List Tr.Spec):=[]
def F79H:ZaW:=(.seq .leaf (.seq .leaf (.seq (.seq .leaf (.lp ⟨[(3,(.pd Y3)),(4,(.pd Y3))],[],[1],[],[],[]⟩ [((.exit 0),⟨[(3,(.pd Y3))],[],[],[],[],[]⟩)] (.seq .leaf (.seq (.seq .leaf (.seq (.reg [(40,Y4)]) .leaf)) .leaf)))) .leaf)))
def F79V (a0:El Y43):Option (El Y3):=Zau (mkE tyTab mapTab pkTab [] [] F79M 49 bdTab) (Zai Tryz.f35) Tryz.f35.results F79H F79A F79R (fun y=>y.2.1) (a0,())
theorem F79_eq (a0:El Y43):F79V a0=F79 a0:=by kernel_rfl
theorem F79_ok:ZaU Tryz.prog 35 F79S:=Zac (m:=F79M) (fn:=Tryz.f35) (hint:=F79H) (pack:=fun y=>y.2.1) Za2 tab_ok trivial fun x z h=>(F79_eq x.1).trans h
def F82: (El Y31)→(El Y66)→Option (El Y3):=fun a0 a1=>
 (idx a0.2.2.1 a1.2.1).bind fun x0=>
 Option.bind
 (run
 (fun s1=>
 bif decide (s1.2≤a1.2.2.2.1) then
 (idx x0.2.2.2.2.2.2.2.1 s1.2).bind fun x2=>
 (idx a0.1 x2.1).bind fun x3=>
 Option.bind (Ztq .i64 (1:Int) x3.2.1) fun x4=>some (.inl (qor .i64 s1.1 x4,IntKind.wrap .i64 (s1.2+(1:Int))))
 else some (.inr s1.1))
 ((0:Int),a1.2.2.1))
 fun x5=>some x5
abbrev F82A:Zam:=(.cons (.pd Y31) (.cons (.pd Y66) .nil))
abbrev F82R:Zam:=(.cons (.pd Y3) .nil)
def F82S:Tr.Spec:= {args:=F82A,res:=F82R,fns:=[],α:=El Y3,f:=fun x=>F82 x.1 x.2.1,unp:=fun z=>(((),(),()),(z,())) }
def F82M:List (Nat×List Tr.Spec):=[]
def F82H:ZaW:=(.seq .leaf (.seq .leaf (.seq .leaf (.seq (.seq .leaf (.lp ⟨[(5,(.pd Y3)),(7,(.pd Y3))],[],[2,3,6],[],[],[]⟩ [((.exit 0),⟨[(5,(.pd Y3))],[],[],[],[],[]⟩)] .leaf)) .leaf))))
def F82V (a0:El Y31) (a1:El Y66):Option (El Y3):=Zau (mkE tyTab mapTab pkTab [] [] F82M 37 bdTab) (Zai Tryz.f119) Tryz.f119.results F82H F82A F82R (fun y=>y.2.1) (a0,a1,())
theorem F82_eq (a0:El Y31) (a1:El Y66):F82V a0 a1=F82 a0 a1:=by kernel_rfl
theorem F82_ok:ZaU Tryz.prog 119 F82S:=Zac (m:=F82M) (fn:=Tryz.f119) (hint:=F82H) (pack:=fun y=>y.2.1) Za2 tab_ok trivial fun x z h=>(F82_eq x.1 x.2.1).trans h
def F77: (El Y31)→(El Y43)→Option (El Zks×El Y36):=fun a0 a1=>
 (F63 a0).bind fun x0=>
 bif !x0 then some ([],(21:Int))
 else
 Option.bind
 (run
 (fun s1=>
 bif decide (s1.2< (↑(List.length a1.1):Int)) then
 (idx a1.1 s1.2).bind fun x2=>
 Option.bind (bif x2.1 then (F75 a0 x2).bind fun x3=>some !x3 else some false) fun x4=>
 bif x4 then some (.inr (.inr ([],(9:Int))))
 else
 Option.bind
 (bif x2.2.2.2.2.2.2.2.2.1 then
 bif !x2.1 then some true
 else
 bif decide (s1.2=(0:Int)) then some true
 else (idx a1.1 (IntKind.wrap .i64 (s1.2 - (1:Int)))).bind fun x5=>some !x5.1
 else some false)
 fun x6=>
 bif x6 then some (.inr (.inr ([],(19:Int))))
 else
 bif !x2.1 then some (.inl (s1.1,IntKind.wrap .i64 (s1.2+(1:Int))))
 else
 (idx a0.2.2.1 x2.2.1).bind fun x7=>
 (idx a0.2.1 x7.2.2.2.2.1).bind fun x8=>
 Option.bind (Ztq .i64 (1:Int) x8.2.1) fun x9=>
 bif x2.2.2.2.2.2.2.2.2.1 then
 (inb (IntKind.wrap .i64 ((↑(List.length s1.1):Int) - (1:Int))) (List.length s1.1)).bind fun x10=>
 Option.bind s1.1[x10]? fun x11=>
 Option.bind
 (inb (IntKind.wrap .i64 ((↑(List.length s1.1):Int) - (1:Int)))
 (List.length (List.set s1.1 x10 (x11.1,x2.2.2.2.2.2.2.2.1,x11.2.2))))
 fun x12=>
 Option.bind (List.set s1.1 x10 (x11.1,x2.2.2.2.2.2.2.2.1,x11.2.2))[x12]? fun x13=>
 (F82 a0 x2).bind fun x14=>
 Option.bind
 (inb (IntKind.wrap .i64 ((↑(List.length s1.1):Int) - (1:Int)))
 (List.length (List.set s1.1 x10 (x11.1,x2.2.2.2.2.2.2.2.1,x11.2.2))))
 fun x15=>
 Option.bind (List.set s1.1 x10 (x11.1,x2.2.2.2.2.2.2.2.1,x11.2.2))[x15]? fun x16=>
 Option.bind
 (inb (IntKind.wrap .i64 ((↑(List.length s1.1):Int) - (1:Int)))
 (List.length
 (List.set (List.set s1.1 x10 (x11.1,x2.2.2.2.2.2.2.2.1,x11.2.2)) x15
 (x16.1,x16.2.1,qor .i64 x13.2.2.1 x14,x16.2.2.2))))
 fun x17=>
 Option.bind
 (List.set (List.set s1.1 x10 (x11.1,x2.2.2.2.2.2.2.2.1,x11.2.2)) x15
 (x16.1,x16.2.1,qor .i64 x13.2.2.1 x14,x16.2.2.2))[x17]?
 fun x18=>
 Option.bind
 (inb (IntKind.wrap .i64 ((↑(List.length s1.1):Int) - (1:Int)))
 (List.length
 (List.set (List.set s1.1 x10 (x11.1,x2.2.2.2.2.2.2.2.1,x11.2.2)) x15
 (x16.1,x16.2.1,qor .i64 x13.2.2.1 x14,x16.2.2.2))))
 fun x19=>
 Option.bind
 (List.set (List.set s1.1 x10 (x11.1,x2.2.2.2.2.2.2.2.1,x11.2.2)) x15
 (x16.1,x16.2.1,qor .i64 x13.2.2.1 x14,x16.2.2.2))[x19]?
 fun x20=>
 some
 (.inl
 (List.set
 (List.set (List.set s1.1 x10 (x11.1,x2.2.2.2.2.2.2.2.1,x11.2.2)) x15
 (x16.1,x16.2.1,qor .i64 x13.2.2.1 x14,x16.2.2.2))
 x19 (x20.1,x20.2.1,x20.2.2.1,qor .i64 x18.2.2.2.1 x9,x20.2.2.2.2),
 IntKind.wrap .i64 (s1.2+(1:Int))))
 else
 (F82 a0 x2).bind fun x21=>
 Option.bind
 (Zap (decide (List.length s1.1+List.length [(x2.2.2.2.2.2.2.1,x2.2.2.2.2.2.2.2.1,x21,x9,())]≤Zaq)))
 fun _=>
 some
 (.inl (s1.1++[(x2.2.2.2.2.2.2.1,x2.2.2.2.2.2.2.2.1,x21,x9,())],IntKind.wrap .i64 (s1.2+(1:Int))))
 else some (.inr (.inl s1.1)))
 ([],(0:Int)))
 fun x23=>Sum.elim (fun y24=>some (y24,(0:Int))) (fun y25=>some (y25.1,y25.2)) x23
abbrev F77A:Zam:=(.cons (.pd Y31) (.cons (.pd Y43) .nil))
abbrev F77R:Zam:=(.cons (.pd Zks) (.cons (.pd Y36) .nil))
def F77S:Tr.Spec:= {args:=F77A,res:=F77R,fns:=[],α:=El Zks×El Y36,f:=fun x=>F77 x.1 x.2.1,unp:=fun z=>(((),(),()),(z.1,z.2,())) }
def F77M:List (Nat×List Tr.Spec):=[(28,[F63S]),(104,[F75S]),(119,[F82S])]
def F77H:ZaW:=(.seq .leaf (.seq .leaf (.seq .leaf (.seq (.seq .leaf (.lp ⟨[(6,(.own ZuX false)),(7,(.pd Y3))],[],[2,3],[],[],[]⟩ [((.exit 0),⟨[(6,(.own ZuX false))],[],[],[],[],[]⟩),(.ret,⟨[(4,(.pd Zks)),(5,(.pd Y36))],[],[],[],[],[]⟩)] (.seq .leaf (.seq (.seq .leaf (.seq (.seq (.reg [(34,Y4)]) .leaf) (.seq (.seq (.reg [(55,Y4)]) .leaf) .leaf))) .leaf)))) .leaf))))
def F77V (a0:El Y31) (a1:El Y43):Option (El Zks×El Y36):=Zau (mkE tyTab mapTab pkTab [] [] F77M 120 bdTab) (Zai Tryz.f107) Tryz.f107.results F77H F77A F77R (fun y=>(y.2.1,y.2.2.1)) (a0,a1,())
theorem F77_eq (a0:El Y31) (a1:El Y43):F77V a0 a1=F77 a0 a1:=by kernel_rfl
theorem F77_ok:ZaU Tryz.prog 107 F77S:=Zac (m:=F77M) (fn:=Tryz.f107) (hint:=F77H) (pack:=fun y=>(y.2.1,y.2.2.1)) Za2 tab_ok ⟨⟨F63_ok,trivial⟩,⟨F75_ok,trivial⟩,⟨F82_ok,trivial⟩,trivial⟩ fun x z h=>(F77_eq x.1 x.2.1).trans h
def F80: (El Y3)→Option (El Y3):=fun a0=>
 Option.bind
 (run
 (fun s0=>
 bif decide (s0.2< (62:Int)) then
 Option.bind (ZqA .i64 a0 s0.2) fun x1=>
 bif decide (Zn5 .i64 x1 (1:Int)=(1:Int)) then
 some (.inl (IntKind.wrap .i64 (s0.1+(1:Int)),IntKind.wrap .i64 (s0.2+(1:Int))))
 else some (.inl (s0.1,IntKind.wrap .i64 (s0.2+(1:Int))))
 else some (.inr s0.1))
 ((0:Int),(0:Int)))
 fun x2=>some x2
abbrev F80A:Zam:=(.cons (.pd Y3) .nil)
abbrev F80R:Zam:=(.cons (.pd Y3) .nil)
def F80S:Tr.Spec:= {args:=F80A,res:=F80R,fns:=[],α:=El Y3,f:=fun x=>F80 x.1,unp:=fun z=>(((),()),(z,())) }
def F80M:List (Nat×List Tr.Spec):=[]
def F80H:ZaW:=(.seq .leaf (.seq .leaf (.seq (.seq .leaf (.lp ⟨[(3,(.pd Y3)),(4,(.pd Y3))],[],[0],[],[],[]⟩ [((.exit 0),⟨[(3,(.pd Y3))],[],[],[],[],[]⟩)] .leaf)) .leaf)))
def F80V (a0:El Y3):Option (El Y3):=Zau (mkE tyTab mapTab pkTab [] [] F80M 17 bdTab) (Zai Tryz.f129) Tryz.f129.results F80H F80A F80R (fun y=>y.2.1) (a0,())
theorem F80_eq (a0:El Y3):F80V a0=F80 a0:=by kernel_rfl
theorem F80_ok:ZaU Tryz.prog 129 F80S:=Zac (m:=F80M) (fn:=Tryz.f129) (hint:=F80H) (pack:=fun y=>y.2.1) Za2 tab_ok trivial fun x z h=>(F80_eq x.1).trans h
def F81: (El Y3)→(El Y3)→(El Y3)→Option (El Y4):=fun a0 a1 a2=>
 bif decide (a1≤a0) then some true
 else some (decide (IntKind.wrap .u64 (IntKind.wrap .u64 a1 - IntKind.wrap .u64 a0)≤IntKind.wrap .u64 a2))
abbrev F81A:Zam:=(.cons (.pd Y3) (.cons (.pd Y3) (.cons (.pd Y3) .nil)))
abbrev F81R:Zam:=(.cons (.pd Y4) .nil)
def F81S:Tr.Spec:= {args:=F81A,res:=F81R,fns:=[],α:=El Y4,f:=fun x=>F81 x.1 x.2.1 x.2.2.1,unp:=fun z=>(((),(),(),()),(z,())) }
def F81M:List (Nat×List Tr.Spec):=[]
def F81H:ZaW:= .leaf
def F81V (a0:El Y3) (a1:El Y3) (a2:El Y3):Option (El Y4):=Zau (mkE tyTab mapTab pkTab [] [] F81M 18 bdTab) (Zai Tryz.f130) Tryz.f130.results F81H F81A F81R (fun y=>y.2.1) (a0,a1,a2,())
theorem F81_eq (a0:El Y3) (a1:El Y3) (a2:El Y3):F81V a0 a1 a2=F81 a0 a1 a2:=by kernel_rfl
theorem F81_ok:ZaU Tryz.prog 130 F81S:=Zac (m:=F81M) (fn:=Tryz.f130) (hint:=F81H) (pack:=fun y=>y.2.1) Za2 tab_ok trivial fun x z h=>(F81_eq x.1 x.2.1 x.2.2.1).trans h
def F74: (El Zpb)→(El Zks)→(El Y3)→(El Y3)→Option (El Y4):=fun a0 a1 a2 a3=>
 Option.bind
 (run
 (fun s0=>
 bif decide (s0.2.2≤a3) then
 (idx a1 s0.2.2).bind fun x1=>
 (idx a1 s0.2.2).bind fun x2=>
 some (.inl (qor .i64 s0.1 x1.2.2.1,qor .i64 s0.2.1 x2.2.2.2.1,IntKind.wrap .i64 (s0.2.2+(1:Int))))
 else some (.inr (s0.1,s0.2.1)))
 ((0:Int),(0:Int),a2))
 fun x3=>
 Option.bind
 (bif decide (IntKind.wrap .i64 (IntKind.wrap .i64 (a3 - a2)+(1:Int))≤a0.2.2.1) then
 (F80 x3.1).bind fun x4=>
 bif decide (x4≤a0.2.2.2.1) then
 (idx a1 a2).bind fun x5=>
 (idx a1 a3).bind fun x6=>
 (F81 x5.1 x6.1 a0.2.2.2.2.1).bind fun x7=>
 bif x7 then some (decide (Tr.qandNot .i64 x3.2 a0.2.2.2.2.2.1=(0:Int))) else some false
 else some false
 else some false)
 fun x8=>some x8
abbrev F74A:Zam:=(.cons (.pd Zpb) (.cons (.pd Zks) (.cons (.pd Y3) (.cons (.pd Y3) .nil))))
abbrev F74R:Zam:=(.cons (.pd Y4) .nil)
def F74S:Tr.Spec:= {args:=F74A,res:=F74R,fns:=[],α:=El Y4,f:=fun x=>F74 x.1 x.2.1 x.2.2.1 x.2.2.2.1,unp:=fun z=>(((),(),(),(),()),(z,())) }
def F74M:List (Nat×List Tr.Spec):=[(129,[F80S]),(130,[F81S])]
def F74H:ZaW:=(.seq .leaf (.seq .leaf (.seq (.seq .leaf (.lp ⟨[(9,(.pd Y3)),(10,(.pd Y3)),(11,(.pd Y3))],[],[1,2,3,4],[],[],[]⟩ [((.exit 0),⟨[(9,(.pd Y3)),(10,(.pd Y3))],[],[1,2,3,4],[],[],[]⟩)] .leaf)) (.seq (.reg [(8,Y4)]) .leaf))))
def F74V (a0:El Zpb) (a1:El Zks) (a2:El Y3) (a3:El Y3):Option (El Y4):=Zau (mkE tyTab mapTab pkTab [] [] F74M 68 bdTab) (Zai Tryz.f120) Tryz.f120.results F74H F74A F74R (fun y=>y.2.1) (a0,a1,a2,a3,())
theorem F74_eq (a0:El Zpb) (a1:El Zks) (a2:El Y3) (a3:El Y3):F74V a0 a1 a2 a3=F74 a0 a1 a2 a3:=by kernel_rfl
theorem F74_ok:ZaU Tryz.prog 120 F74S:=Zac (m:=F74M) (fn:=Tryz.f120) (hint:=F74H) (pack:=fun y=>y.2.1) Za2 tab_ok ⟨⟨F80_ok,trivial⟩,⟨F81_ok,trivial⟩,trivial⟩ fun x z h=>(F74_eq x.1 x.2.1 x.2.2.1 x.2.2.2.1).trans h
def F78: (El Y29)→(El Zpb)→(El Zks)→(El Y3)→Option (El Y3):=fun a0 a1 a2 a3=>
 Option.bind
 (bif decide ((0:Int)<a3) then
 (idx a2 (IntKind.wrap .i64 (a3 - (1:Int)))).bind fun x0=>
 (idx a2 a3).bind fun x1=>(F81 x0.2.1 x1.1 a0.2.2.1).bind fun x2=>some x2
 else some false)
 fun x3=>bif x3 then some (Tr.imax (0:Int) (IntKind.wrap .i64 (a1.2.1 - a0.2.1))) else some a1.2.1
abbrev F78A:Zam:=(.cons (.pd Y29) (.cons (.pd Zpb) (.cons (.pd Zks) (.cons (.pd Y3) .nil))))
abbrev F78R:Zam:=(.cons (.pd Y3) .nil)
def F78S:Tr.Spec:= {args:=F78A,res:=F78R,fns:=[],α:=El Y3,f:=fun x=>F78 x.1 x.2.1 x.2.2.1 x.2.2.2.1,unp:=fun z=>(((),(),(),(),()),(z,())) }
def F78M:List (Nat×List Tr.Spec):=[(130,[F81S])]
def F78H:ZaW:=(.seq .leaf (.seq (.seq (.reg [(26,Y4)]) .leaf) .leaf))
def F78V (a0:El Y29) (a1:El Zpb) (a2:El Zks) (a3:El Y3):Option (El Y3):=Zau (mkE tyTab mapTab pkTab [] [] F78M 35 bdTab) (Zai Tryz.f121) Tryz.f121.results F78H F78A F78R (fun y=>y.2.1) (a0,a1,a2,a3,())
theorem F78_eq (a0:El Y29) (a1:El Zpb) (a2:El Zks) (a3:El Y3):F78V a0 a1 a2 a3=F78 a0 a1 a2 a3:=by kernel_rfl
theorem F78_ok:ZaU Tryz.prog 121 F78S:=Zac (m:=F78M) (fn:=Tryz.f121) (hint:=F78H) (pack:=fun y=>y.2.1) Za2 tab_ok ⟨⟨F81_ok,trivial⟩,trivial⟩ fun x z h=>(F78_eq x.1 x.2.1 x.2.2.1 x.2.2.2.1).trans h
def F76: (El Y29)→(El Zks)→Option (El Y3×El Zrt×El Y4):=fun a0 a1=>
 Option.bind
 (Zap
 (decide
 ((0:El (Tr.Ty.int .i64))≤IntKind.wrap .i64 ((↑(List.length a1):Int)+(1:Int))∧
 IntKind.wrap .i64 ((↑(List.length a1):Int)+(1:Int))≤IntKind.wrap .i64 ((↑(List.length a1):Int)+(1:Int))∧
 IntKind.wrap .i64 ((↑(List.length a1):Int)+(1:Int))≤(↑Zaq:El (Tr.Ty.int .i64)))))
 fun _=>
 (inb (↑(List.length a1):Int) (List.length (List.replicate (Int.toNat (IntKind.wrap .i64 ((↑(List.length a1):Int)+(1:Int)))) ((false,(0:Int),([]:List (El ZuE)),()))))).bind fun x1=>
 Option.bind (List.replicate (Int.toNat (IntKind.wrap .i64 ((↑(List.length a1):Int)+(1:Int)))) ((false,(0:Int),([]:List (El ZuE)),())))[x1]? fun x2=>
 Option.bind
 (run
 (fun s3=>
 bif decide ((0:Int)≤s3.2) then
 Option.bind
 (run
 (fun s4=>
 bif decide (s4.2< (↑(List.length a1):Int)) then
 (inb (IntKind.wrap .i64 (s4.2+(1:Int))) (List.length s4.1)).bind fun x5=>
 Option.bind s4.1[x5]? fun x6=>
 bif !x6.1 then some (.inl (s4.1,IntKind.wrap .i64 (s4.2+(1:Int))))
 else
 Option.bind
 (run
 (fun s7=>
 bif decide (s7.2< (↑(List.length a0.1):Int)) then
 (idx a0.1 s7.2).bind fun x8=>
 (F74 x8 a1 s3.2 s4.2).bind fun x9=>
 bif !x9 then some (.inl (s7.1,IntKind.wrap .i64 (s7.2+(1:Int))))
 else
 (idx a0.1 s7.2).bind fun x10=>
 (F78 a0 x10 a1 s3.2).bind fun x11=>
 (inb (IntKind.wrap .i64 (s4.2+(1:Int))) (List.length s7.1)).bind fun x12=>
 Option.bind s7.1[x12]? fun x13=>
 Option.bind
 ((inb s3.2 (List.length s7.1)).bind fun x14=>
 Option.bind s7.1[x14]? fun x15=>
 bif x15.1 then
 (inb s3.2 (List.length s7.1)).bind fun x16=>
 Option.bind s7.1[x16]? fun x17=>
 bif decide (x17.2.1<IntKind.wrap .i64 (x11+x13.2.1)) then some true
 else
 (inb s3.2 (List.length s7.1)).bind fun x18=>
 Option.bind s7.1[x18]? fun x19=>
 bif decide (IntKind.wrap .i64 (x11+x13.2.1)=x19.2.1) then
 (inb (IntKind.wrap .i64 (s4.2+(1:Int))) (List.length s7.1)).bind fun x20=>
 Option.bind s7.1[x20]? fun x21=>
 (inb s3.2 (List.length s7.1)).bind fun x22=>
 Option.bind s7.1[x22]? fun x23=>
 some
 (decide
 ((↑(List.length x23.2.2.1):Int)≤
 IntKind.wrap .i64 ((1:Int)+(↑(List.length x21.2.2.1):Int))))
 else some false
 else some false)
 fun x24=>
 bif x24 then some (.inl (s7.1,IntKind.wrap .i64 (s7.2+(1:Int))))
 else
 (inb (IntKind.wrap .i64 (s4.2+(1:Int))) (List.length s7.1)).bind fun x25=>
 Option.bind s7.1[x25]? fun x26=>
 Option.bind (Zap (decide (List.length [(s7.2,s3.2,s4.2,x11,())]+List.length x26.2.2.1≤Zaq)))
 fun _=>
 (inb s3.2 (List.length s7.1)).bind fun x28=>
 Option.bind s7.1[x28]? fun _=>
 some
 (.inl
 (List.set s7.1 x28
 (true,IntKind.wrap .i64 (x11+x13.2.1),[(s7.2,s3.2,s4.2,x11,())]++x26.2.2.1,()),
 IntKind.wrap .i64 (s7.2+(1:Int))))
 else some (.inr s7.1))
 (s4.1,(0:Int)))
 fun x30=>some (.inl (x30,IntKind.wrap .i64 (s4.2+(1:Int))))
 else some (.inr s4.1))
 (s3.1,s3.2))
 fun x31=>some (.inl (x31,IntKind.wrap .i64 (s3.2 - (1:Int))))
 else some (.inr s3.1))
 (List.set (List.replicate (Int.toNat (IntKind.wrap .i64 ((↑(List.length a1):Int)+(1:Int)))) ((false,(0:Int),([]:List (El ZuE)),()))) x1 (true,x2.2),
 IntKind.wrap .i64 ((↑(List.length a1):Int) - (1:Int))))
 fun x32=>
 (inb (0:Int) (List.length x32)).bind fun x33=>
 Option.bind x32[x33]? fun x34=>
 (inb (0:Int) (List.length x32)).bind fun x35=>
 Option.bind x32[x35]? fun x36=>(inb (0:Int) (List.length x32)).bind fun x37=>Option.bind x32[x37]? fun x38=>some (x34.2.1,x36.2.2.1,x38.1)
abbrev F76A:Zam:=(.cons (.pd Y29) (.cons (.pd Zks) .nil))
abbrev F76R:Zam:=(.cons (.pd Y3) (.cons (.pd Zrt) (.cons (.pd Y4) .nil)))
def F76S:Tr.Spec:= {args:=F76A,res:=F76R,fns:=[],α:=El Y3×El Zrt×El Y4,f:=fun x=>F76 x.1 x.2.1,unp:=fun z=>(((),(),()),(z.1,z.2.1,z.2.2,())) }
def F76M:List (Nat×List Tr.Spec):=[(120,[F74S]),(121,[F78S])]
def F76H:ZaW:=(.seq .leaf (.seq .leaf (.seq .leaf (.seq (.seq .leaf (.lp ⟨[(7,(.own ZsY false)),(8,(.pd Y3))],[],[1,2],[],[],[]⟩ [((.exit 0),⟨[(7,(.own ZsY false))],[],[],[],[],[]⟩)] (.seq .leaf (.seq (.seq .leaf (.lp ⟨[(7,(.own ZsY false)),(9,(.pd Y3))],[],[1,2,8],[],[],[]⟩ [((.exit 2),⟨[(7,(.own ZsY false))],[],[1,2,8],[],[],[]⟩)] (.seq .leaf (.seq (.seq .leaf (.seq .leaf (.lp ⟨[(7,(.own ZsY false)),(10,(.pd Y3))],[],[1,2,8,9],[],[],[]⟩ [((.exit 4),⟨[(7,(.own ZsY false))],[],[1,2,8,9],[],[],[]⟩)] (.seq .leaf (.seq (.seq .leaf (.seq .leaf (.seq .leaf (.seq (.seq (.reg [(117,Y4)]) .leaf) .leaf)))) .leaf))))) .leaf)))) .leaf)))) .leaf))))
def F76V (a0:El Y29) (a1:El Zks):Option (El Y3×El Zrt×El Y4):=Zau (mkE tyTab mapTab pkTab [173] [] F76M 150 bdTab) (Zai Tryz.f108) Tryz.f108.results F76H F76A F76R (fun y=>(y.2.1,y.2.2.1,y.2.2.2.1)) (a0,a1,())
theorem F76_eq (a0:El Y29) (a1:El Zks):F76V a0 a1=F76 a0 a1:=by kernel_rfl
theorem F76_ok:ZaU Tryz.prog 108 F76S:=Zac (m:=F76M) (fn:=Tryz.f108) (hint:=F76H) (pack:=fun y=>(y.2.1,y.2.2.1,y.2.2.2.1)) Za2 tab_ok ⟨⟨F74_ok,trivial⟩,⟨F78_ok,trivial⟩,trivial⟩ fun x z h=>(F76_eq x.1 x.2.1).trans h
def F72: (El Y29)→(El Y3)→Option (El Y3):=fun a0 a1=>bif decide ((0:Int)<a0.2.2.2.1) then some (Tr.imin a0.2.2.2.1 a1) else some a1
abbrev F72A:Zam:=(.cons (.pd Y29) (.cons (.pd Y3) .nil))
abbrev F72R:Zam:=(.cons (.pd Y3) .nil)
def F72S:Tr.Spec:= {args:=F72A,res:=F72R,fns:=[],α:=El Y3,f:=fun x=>F72 x.1 x.2.1,unp:=fun z=>(((),(),()),(z,())) }
def F72M:List (Nat×List Tr.Spec):=[]
def F72H:ZaW:= .leaf
def F72V (a0:El Y29) (a1:El Y3):Option (El Y3):=Zau (mkE tyTab mapTab pkTab [] [] F72M 13 bdTab) (Zai Tryz.f109) Tryz.f109.results F72H F72A F72R (fun y=>y.2.1) (a0,a1,())
theorem F72_eq (a0:El Y29) (a1:El Y3):F72V a0 a1=F72 a0 a1:=by kernel_rfl
theorem F72_ok:ZaU Tryz.prog 109 F72S:=Zac (m:=F72M) (fn:=Tryz.f109) (hint:=F72H) (pack:=fun y=>y.2.1) Za2 tab_ok trivial fun x z h=>(F72_eq x.1 x.2.1).trans h
def F73: (El Y31)→(El Y33)→(El Y43)→Option (El Zt2×El Zrt×El Y36):=fun a0 a1 a2=>
 (F77 a0 a2).bind fun x0=>
 bif !decide (x0.2=(0:Int)) then some (((0:Int),(0:Int),(0:Int),(0:Int),(0:Int),()),[],x0.2)
 else
 bif decide ((8:Int)< (↑(List.length x0.1):Int)) then some (((0:Int),(0:Int),(0:Int),(0:Int),(0:Int),()),[],(33:Int))
 else
 (F76 a0.2.2.2.2.2.1 x0.1).bind fun x1=>
 bif !x1.2.2 then some (((0:Int),(0:Int),(0:Int),(0:Int),(0:Int),()),[],(34:Int))
 else
 (F72 a0.2.2.2.2.2.1 x1.1).bind fun x2=>
 (F79 a2).bind fun x3=>
 Option.bind
 (bif decide ((0:Int)< (↑(List.length a2.1):Int)) then
 (idx a2.1 (0:Int)).bind fun x4=>
 (idx a2.1 (IntKind.wrap .i64 ((↑(List.length a2.1):Int) - (1:Int)))).bind fun x5=>
 some (x4.2.2.2.2.2.2.1,x5.2.2.2.2.2.2.2.1,(↑(List.length x0.1):Int),x2,x3,())
 else some (a1.2.2.1,a1.2.2.1,(↑(List.length x0.1):Int),x2,x3,()))
 fun x6=>some (x6,x1.2.1,(0:Int))
abbrev F73A:Zam:=(.cons (.pd Y31) (.cons (.pd Y33) (.cons (.pd Y43) .nil)))
abbrev F73R:Zam:=(.cons (.pd Zt2) (.cons (.pd Zrt) (.cons (.pd Y36) .nil)))
def F73S:Tr.Spec:= {args:=F73A,res:=F73R,fns:=[],α:=El Zt2×El Zrt×El Y36,f:=fun x=>F73 x.1 x.2.1 x.2.2.1,unp:=fun z=>(((),(),(),()),(z.1,z.2.1,z.2.2,())) }
def F73M:List (Nat×List Tr.Spec):=[(35,[F79S]),(107,[F77S]),(108,[F76S]),(109,[F72S])]
def F73H:ZaW:=(.seq .leaf (.seq .leaf (.seq .leaf (.seq .leaf (.seq .leaf (.seq .leaf (.seq .leaf (.seq (.seq .leaf (.cnd (some (⟨[],[],[6,12],[],[],[]⟩,[(.normal,⟨[(14,(.var Zt2 (.pd Zt2)))],[],[6,12],[],[],[]⟩)])) .leaf .leaf)) .leaf))))))))
def F73V (a0:El Y31) (a1:El Y33) (a2:El Y43):Option (El Zt2×El Zrt×El Y36):=Zau (mkE tyTab mapTab pkTab [] [] F73M 75 bdTab) (Zai Tryz.f78) Tryz.f78.results F73H F73A F73R (fun y=>(y.2.1,y.2.2.1,y.2.2.2.1)) (a0,a1,a2,())
theorem F73_eq (a0:El Y31) (a1:El Y33) (a2:El Y43):F73V a0 a1 a2=F73 a0 a1 a2:=by kernel_rfl
theorem F73_ok:ZaU Tryz.prog 78 F73S:=Zac (m:=F73M) (fn:=Tryz.f78) (hint:=F73H) (pack:=fun y=>(y.2.1,y.2.2.1,y.2.2.2.1)) Za2 tab_ok ⟨⟨F79_ok,trivial⟩,⟨F77_ok,trivial⟩,⟨F76_ok,trivial⟩,⟨F72_ok,trivial⟩,trivial⟩ fun x z h=>(F73_eq x.1 x.2.1 x.2.2.1).trans h
def F89: (El Y31)→(El Y33)→(El Y43)→Option (El Y36):=fun a0 a1 a2=>
 (idx a2.1 (IntKind.wrap .i64 ((↑(List.length a2.1):Int) - (1:Int)))).bind fun x0=>
 bif !decide (x0.2.2.2.2.2.1=a1.2.1) then some (24:Int)
 else
 Option.bind (bif a1.2.2.2.1 then some (decide (a1.2.2.1<x0.2.2.2.2.2.2.2.1)) else some false) fun x1=>
 bif x1 then some (10:Int)
 else
 Option.bind
 (run
 (fun s2=>
 bif decide (s2.2< (↑(List.length a2.1):Int)) then
 Option.bind
 ((idx a2.1 s2.2).bind fun x3=>
 bif x3.1 then (idx a2.1 s2.2).bind fun x4=>some !x4.2.2.2.2.2.2.2.2.1 else some false)
 fun x5=>
 bif x5 then some (.inl (IntKind.wrap .i64 (s2.1+(1:Int)),IntKind.wrap .i64 (s2.2+(1:Int))))
 else some (.inl (s2.1,IntKind.wrap .i64 (s2.2+(1:Int))))
 else some (.inr s2.1))
 ((0:Int),(0:Int)))
 fun x6=>
 bif decide (a1.2.2.2.2.1<x6) then some (33:Int)
 else
 (F79 a2).bind fun x7=>
 bif decide (a1.2.2.2.2.2.1<x7) then some (32:Int) else (F73 a0 a1 a2).bind fun x8=>some x8.2.2
abbrev F89A:Zam:=(.cons (.pd Y31) (.cons (.pd Y33) (.cons (.pd Y43) .nil)))
abbrev F89R:Zam:=(.cons (.pd Y36) .nil)
def F89S:Tr.Spec:= {args:=F89A,res:=F89R,fns:=[],α:=El Y36,f:=fun x=>F89 x.1 x.2.1 x.2.2.1,unp:=fun z=>(((),(),(),()),(z,())) }
def F89M:List (Nat×List Tr.Spec):=[(35,[F79S]),(78,[F73S])]
def F89H:ZaW:=(.seq .leaf (.seq .leaf (.seq .leaf (.seq (.seq (.reg [(34,Y4)]) .leaf) (.seq .leaf (.seq (.seq .leaf (.lp ⟨[(8,(.pd Y3)),(9,(.pd Y3))],[],[3,4,5],[],[],[]⟩ [((.exit 0),⟨[(8,(.pd Y3))],[],[3,4,5],[],[],[]⟩)] (.seq .leaf (.seq (.seq (.reg [(56,Y4)]) .leaf) .leaf)))) .leaf))))))
def F89V (a0:El Y31) (a1:El Y33) (a2:El Y43):Option (El Y36):=Zau (mkE tyTab mapTab pkTab [43] [] F89M 77 bdTab) (Zai Tryz.f52) Tryz.f52.results F89H F89A F89R (fun y=>y.2.1) (a0,a1,a2,())
theorem F89_eq (a0:El Y31) (a1:El Y33) (a2:El Y43):F89V a0 a1 a2=F89 a0 a1 a2:=by kernel_rfl
theorem F89_ok:ZaU Tryz.prog 52 F89S:=Zac (m:=F89M) (fn:=Tryz.f52) (hint:=F89H) (pack:=fun y=>y.2.1) Za2 tab_ok ⟨⟨F79_ok,trivial⟩,⟨F73_ok,trivial⟩,trivial⟩ fun x z h=>(F89_eq x.1 x.2.1 x.2.2.1).trans h
def F83: (El Y31)→(El Y33)→(El Y43)→Option (El Y3×El Y36):=fun a0 a1 a2=>
 (F84 a0 a1).bind fun x0=>
 bif !decide (x0=(0:Int)) then some ((0:Int),x0)
 else
 bif decide ((↑(List.length a2.1):Int)=(0:Int)) then bif !decide (a1.1=a1.2.1) then some ((0:Int),(24:Int)) else some ((0:Int),(0:Int))
 else
 Option.bind
 (run
 (fun s1=>
 bif decide (s1< (↑(List.length a2.1):Int)) then
 (F88 a0 a1 a2 s1).bind fun x2=>
 bif !decide (x2=(0:Int)) then some (.inr (.inr (s1,x2))) else some (.inl (IntKind.wrap .i64 (s1+(1:Int))))
 else some (.inr (.inl ())))
 (0:Int))
 fun x3=>
 Sum.elim
 (fun _=>
 (F89 a0 a1 a2).bind fun x5=>
 bif !decide (x5=(0:Int)) then some (IntKind.wrap .i64 ((↑(List.length a2.1):Int) - (1:Int)),x5) else some ((0:Int),(0:Int)))
 (fun y6=>some (y6.1,y6.2)) x3
abbrev F83A:Zam:=(.cons (.pd Y31) (.cons (.pd Y33) (.cons (.pd Y43) .nil)))
abbrev F83R:Zam:=(.cons (.pd Y3) (.cons (.pd Y36) .nil))
def F83S:Tr.Spec:= {args:=F83A,res:=F83R,fns:=[],α:=El Y3×El Y36,f:=fun x=>F83 x.1 x.2.1 x.2.2.1,unp:=fun z=>(((),(),(),()),(z.1,z.2,())) }
def F83M:List (Nat×List Tr.Spec):=[(13,[F84S]),(51,[F88S]),(52,[F89S])]
def F83H:ZaW:=(.seq .leaf (.seq .leaf (.seq .leaf (.seq .leaf (.seq (.seq .leaf (.lp ⟨[(9,(.pd Y3))],[],[3,4,5],[],[],[]⟩ [((.exit 0),⟨[],[],[3,4,5],[],[],[]⟩),(.ret,⟨[(6,(.pd Y3)),(7,(.pd Y36))],[],[],[],[],[]⟩)] .leaf)) .leaf)))))
def F83V (a0:El Y31) (a1:El Y33) (a2:El Y43):Option (El Y3×El Y36):=Zau (mkE tyTab mapTab pkTab [43] [] F83M 52 bdTab) (Zai Tryz.f36) Tryz.f36.results F83H F83A F83R (fun y=>(y.2.1,y.2.2.1)) (a0,a1,a2,())
theorem F83_eq (a0:El Y31) (a1:El Y33) (a2:El Y43):F83V a0 a1 a2=F83 a0 a1 a2:=by kernel_rfl
theorem F83_ok:ZaU Tryz.prog 36 F83S:=Zac (m:=F83M) (fn:=Tryz.f36) (hint:=F83H) (pack:=fun y=>(y.2.1,y.2.2.1)) Za2 tab_ok ⟨⟨F84_ok,trivial⟩,⟨F88_ok,trivial⟩,⟨F89_ok,trivial⟩,trivial⟩ fun x z h=>(F83_eq x.1 x.2.1 x.2.2.1).trans h
def F85: (El Y31)→(El Y33)→(El Y43)→Option (El Y4):=fun a0 a1 a2=>(F83 a0 a1 a2).bind fun x0=>some (decide (x0.2=(0:Int)))
abbrev F85A:Zam:=(.cons (.pd Y31) (.cons (.pd Y33) (.cons (.pd Y43) .nil)))
abbrev F85R:Zam:=(.cons (.pd Y4) .nil)
def F85S:Tr.Spec:= {args:=F85A,res:=F85R,fns:=[],α:=El Y4,f:=fun x=>F85 x.1 x.2.1 x.2.2.1,unp:=fun z=>(((),(),(),()),(z,())) }
def F85M:List (Nat×List Tr.Spec):=[(36,[F83S])]
def F85H:ZaW:= .leaf
def F85V (a0:El Y31) (a1:El Y33) (a2:El Y43):Option (El Y4):=Zau (mkE tyTab mapTab pkTab [43] [] F85M 18 bdTab) (Zai Tryz.f25) Tryz.f25.results F85H F85A F85R (fun y=>y.2.1) (a0,a1,a2,())
theorem F85_eq (a0:El Y31) (a1:El Y33) (a2:El Y43):F85V a0 a1 a2=F85 a0 a1 a2:=by kernel_rfl
theorem F85_ok:ZaU Tryz.prog 25 F85S:=Zac (m:=F85M) (fn:=Tryz.f25) (hint:=F85H) (pack:=fun y=>y.2.1) Za2 tab_ok ⟨⟨F83_ok,trivial⟩,trivial⟩ fun x z h=>(F85_eq x.1 x.2.1 x.2.2.1).trans h
end
end Q
