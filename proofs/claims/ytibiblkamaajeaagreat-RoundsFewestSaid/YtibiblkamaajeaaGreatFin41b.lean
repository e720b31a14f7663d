/- The functions of the program as functions of Lean, and that the program computes them; printed by a program of mine. Conditions: none. -/
import Derived.Test.YtibiblkamaajeaaGreatFin41a
open Tr Go Go.Proofs
open Int renaming toNat ->Vh
open Go.IntKind renaming wrap ->Vc
open List renaming length ->Vb,set ->Vd,replicate ->Vg
open Option renaming bind ->Va,isSome ->Vi
open Sum renaming elim ->Vf
open UInt8 renaming toNat ->Ve
namespace Q
noncomputable section
def F124: (Tz0)->(El Y3)->Option (Tz0):=fun a0 a1=>
 Va (inb a1 (Vb a0.2.2.2.2.1)) fun x0=>
 Va a0.2.2.2.2.1[x0]? fun x1=>
 Va (idx a0.1.2.2.1 a1) fun x2=>
 Va (idx x2.2.2.2.2.2.2.2.1 x1.1) fun x3=>
 Va
 (run
 (fun s4=>
 bif decide (s4.2< (↑(Vb x2.2.2.2.2.2.2.2.1):Int)) then
 Va (idx x2.2.2.2.2.2.2.2.1 s4.2) fun x5=>
 Va
 (bif !x5.2.2.2.2.1 then Va (idx s4.1.2.2.2.2.2.2.1 a1) fun x6=>some (decide ((↑(Vb x6):Int)=(0:Int)))
 else some false)
 fun x7=>
 bif x7 then
 some
 (.inl
 (s4.1,
 Vc .i64 (s4.2+(1:Int))))
 else
 Va
 (F118
 s4.1
 (true,a1,x1.1,s4.2,x3.1,x5.1,x3.2.2.1,x5.2.1,x1.2.2.1,()) x1.2.1)
 fun x8=>
 Va
 (F120
 x8.1
 a1 s4.2 x8.2 x5.2.2.2.2.1)
 fun x9=>
 Va (inb x5.1 (Vb x9.2.2.1)) fun x10=>
 Va
 (bif x5.2.2.2.2.1 then
 Va x9.2.2.1[x10]? fun x11=>
 bif decide (x11.2.1=(-1:Int)) then some true
 else Va x9.2.2.1[x10]? fun x12=>some (decide (x5.2.1<x12.2.1))
 else some false)
 fun x13=>
 bif x13 then
 Va x9.2.2.1[x10]? fun x14=>
 Va (Vd x9.2.2.1 x10 (x14.1,x5.2.1,x14.2.2))[x10]? fun x15=>
 some
 (.inl
 ((x9.1,x9.2.1,
 Vd (Vd x9.2.2.1 x10 (x14.1,x5.2.1,x14.2.2)) x10
 (x15.1,x15.2.1,x15.2.2.1,x15.2.2.2.1,x8.2,x15.2.2.2.2.2),
 x9.2.2.2.1,x9.2.2.2.2.1,x9.2.2.2.2.2.1,x9.2.2.2.2.2.2.1,()),
 Vc .i64 (s4.2+(1:Int))))
 else
 some
 (.inl
 (x9,
 Vc .i64 (s4.2+(1:Int))))
 else
 some
 (.inr
 s4.1))
 (a0,
 Vc .i64 (x1.1+(1:Int))))
 fun x16=>some x16
def F124S:Tr.Spec:= {args:=(.cons Pz1 (.cons (.pd Y3) .nil)),res:= .nil,fns:=[],α:=Tz0,f:=fun x=>F124 x.1 x.2.1,unp:=fun z=>((z,(),()),()) }
theorem F124_ok:ZaS Tryz.prog 69 F124S:=Zad (rws:=[]) (zxs:=[]) (nt:=119) (m:=[(66,[F118S]),(102,[F120S])]) (fn:=Tryz.f69) (hint:=(hS (hS (hS (hS (hS (.lp ⟨[(0,Pz1),(7,(.pd Y3))],[],[1,4,5,6],[],[],[]⟩ [((.exit 0),⟨[(0,Pz1)],[],[],[],[],[]⟩)] (hS (.seq (hS (.seq (.seq (.reg [(58,Y4)]) .leaf) (hS (hS (hS (.seq (.reg [(109,Y4)]) .leaf)))))) .leaf))))))))) (pack:=fun y=>y.1.1) Za1 tab_ok ⟨⟨F118_ok,trivial⟩,⟨F120_ok,trivial⟩,trivial⟩ fun x z h=> .trans (by kernel_rfl) h
def F123: (Tz1)->(El Y72)->Option (Tz1):=fun a0 a1=>
 Va
 (Zam
 (decide
 ((0:El (Tr.Ty.int .i64))<=(↑(Vb a1):Int)/\
 (↑(Vb a1):Int)<=(↑(Vb a1):Int)/\(↑(Vb a1):Int)<=(↑Zan:El (Tr.Ty.int .i64)))))
 fun _=>
 Va (F126 (↑(Vb a0.2.2.2.1):Int)) fun x1=>
 Va (F126 (↑(Vb a0.2.2.2.1):Int)) fun x2=>
 Va
 (run
 (fun s3=>
 bif decide (s3.2< (↑(Vb a0.1.2.2.1):Int)) then
 Va (idx a0.1.2.2.1 s3.2) fun x4=>
 Va (inb s3.2 (Vb a0.2.2.2.1)) fun x5=>
 Va a0.2.2.2.1[x5]? fun x6=>
 Va
 (bif !decide (x6.1=(-1:Int)) then
 Va (inb s3.2 (Vb a0.2.2.2.1)) fun x7=>
 Va a0.2.2.2.1[x7]? fun x8=>
 Va
 (F119
 s3.1
 s3.2 x8)
 fun x9=>some x9
 else
 some
 s3.1)
 fun x10=>
 Va
 (run
 (fun s11=>
 bif decide (s11.2< (↑(Vb x4.2.2.2.2.2.2.2.1):Int)) then
 Va (idx x4.2.2.2.2.2.2.2.1 s11.2) fun x12=>
 Va (idx a1 x12.1) fun x13=>
 Va
 (bif x12.2.2.2.1 then
 bif !decide (x13.2.2.1=(-1:Int)) then
 bif decide (x13.2.2.1<=x12.2.2.1) then
 Va (inb s3.2 (Vb s11.1.2.2.2.2.1)) fun x14=>
 Va s11.1.2.2.2.2.1[x14]? fun x15=>Va (F114 x15 s11.2) fun x16=>some x16
 else some false
 else some false
 else some false)
 fun x17=>
 bif x17 then
 Va
 (F119
 s11.1
 s3.2 (s11.2,x13.2.2.2.2.2.1,false,()))
 fun x18=>
 some
 (.inl
 (x18,
 Vc .i64 (s11.2+(1:Int))))
 else
 some
 (.inl
 (s11.1,
 Vc .i64 (s11.2+(1:Int))))
 else
 some
 (.inr
 s11.1))
 (x10,(0:Int)))
 fun x19=>
 some
 (.inl
 (x19,
 Vc .i64 (s3.2+(1:Int))))
 else
 some
 (.inr
 s3.1))
 ((a0.1,a0.2.1,
 List.take (Min.min (Vb a1) (Vb (Vg (Vh (↑(Vb a1):Int)) (((0:Int),(0:Int),(0:Int),(0:Int),(0:Int),(0:Int),()))))) a1++
 List.drop (Min.min (Vb a1) (Vb (Vg (Vh (↑(Vb a1):Int)) (((0:Int),(0:Int),(0:Int),(0:Int),(0:Int),(0:Int),())))))
 (Vg (Vh (↑(Vb a1):Int)) (((0:Int),(0:Int),(0:Int),(0:Int),(0:Int),(0:Int),()))),
 x1,x2,[],a0.2.2.2.2.2.2.1,()),
 (0:Int)))
 fun x20=>
 Va
 (run
 (fun s21=>
 bif decide ((0:Int)< (↑(Vb s21.2.2.2.2.2.1):Int)) then
 Va (inb (Vc .i64 ((↑(Vb s21.2.2.2.2.2.1):Int) - (1:Int))) (Vb s21.2.2.2.2.2.1)) fun x22=>
 Va s21.2.2.2.2.2.1[x22]? fun x23=>
 Va
 (sliceB (Vb s21.2.2.2.2.2.1) (Vb s21.2.2.2.2.2.1) none
 (some (Vc .i64 ((↑(Vb s21.2.2.2.2.2.1):Int) - (1:Int)))))
 fun x24=>
 Va
 (F124
 (s21.1,s21.2.1,s21.2.2.1,s21.2.2.2.1,s21.2.2.2.2.1,List.take x24.2 s21.2.2.2.2.2.1,s21.2.2.2.2.2.2.1,())
 x23)
 fun x25=>
 some (.inl x25)
 else some (.inr s21))
 x20)
 fun x26=>
 Va
 (run
 (fun s27=>
 bif decide (s27.2< (↑(Vb x26.2.2.1):Int)) then
 Va (inb s27.2 (Vb s27.1.2.2.1)) fun x28=>
 Va s27.1.2.2.1[x28]? fun x29=>
 Va
 (bif !decide (x29.2.1=(-1:Int)) then
 Va (idx a1 s27.2) fun x30=>
 bif decide (x30.2.1=(-1:Int)) then some true
 else Va (idx a1 s27.2) fun x31=>some (decide (x29.2.1<x31.2.1))
 else some false)
 fun x32=>
 bif x32 then
 Va (idx s27.1.1.1 s27.2) fun x33=>
 Va
 (F121
 s27.1
 s27.2 x29.2.1 (Vc .i64 (x29.2.1+x33.2.2.2.1)) x29.2.2.2.2.1)
 fun x34=>
 Va
 (F125
 x34 s27.2
 x29.2.1 x29.2.2.2.2.1)
 fun x35=>
 some
 (.inl
 (x35,
 Vc .i64 (s27.2+(1:Int))))
 else
 some
 (.inl
 (s27.1,
 Vc .i64 (s27.2+(1:Int))))
 else
 some
 (.inr
 s27.1))
 (x26,(0:Int)))
 fun x36=>some x36
def F123S:Tr.Spec:= {args:=(.cons Pz3 (.cons (.pd Y72) .nil)),res:= .nil,fns:=[],α:=Tz1,f:=fun x=>F123 x.1 x.2.1,unp:=fun z=>((z,(),()),()) }
theorem F123_ok:ZaS Tryz.prog 46 F123S:=Zad (rws:=[]) (zxs:=[]) (nt:=208) (m:=[(43,[F126S]),(44,[F121S]),(45,[F125S]),(67,[F119S]),(68,[F114S]),(69,[F124S])]) (fn:=Tryz.f46) (hint:=(hS (hS (hS (hS (hS (hS (.seq (hS (.lp ⟨[(0,Pz1),(50,(.pd Y3))],[],[1,4,48,49],[],[],[]⟩ [((.exit 0),⟨[(0,Pz1)],[],[1],[],[],[]⟩)] (hS (hS (.seq (hS (.seq (hS (.cnd (some (⟨[],[],[1,4,5,6,48,49,50],[],[],[]⟩,[(.normal,⟨[(0,Pz1)],[],[1,4,5,6,48,49,50],[],[],[]⟩)])) .leaf .leaf)) (hS (.lp ⟨[(0,Pz1),(71,(.pd Y3))],[],[1,4,5,48,49,50,69,70],[],[],[]⟩ [((.exit 2),⟨[(0,Pz1)],[],[1,4,48,49,50],[],[],[]⟩)] (hS (hS (.seq (hS (hS (.seq (.reg [(105,Y4)]) .leaf))) .leaf))))))) .leaf))))) (.seq (.lp ⟨[(0,Pz1)],[],[1],[],[],[]⟩ [((.exit 4),⟨[(0,Pz1)],[],[1],[],[],[]⟩)] .leaf) (hS (.lp ⟨[(0,Pz1),(155,(.pd Y3))],[],[1,154],[],[(0,2,10)],[153]⟩ [((.exit 6),⟨[(0,Pz1)],[],[],[],[],[]⟩)] (hS (hS (.seq (hS (.seq (.reg [(180,Y4)]) .leaf)) .leaf)))))))))))))) (pack:=fun y=>y.1.1) Za1 tab_ok ⟨⟨F126_ok,trivial⟩,⟨F121_ok,trivial⟩,⟨F125_ok,trivial⟩,⟨F119_ok,trivial⟩,⟨F114_ok,trivial⟩,⟨F124_ok,trivial⟩,trivial⟩ fun x z h=> .trans (by kernel_rfl) h
def F116: (El Y31)->(El Y33)->Option (Tz1×El Y69×El Y36):=fun a0 a1=>
 Va (F115 a0 a1) fun x0=>
 bif !decide (x0=(0:Int)) then none
 else
 Va (F7 a0 a1) fun x1=>
 Va (F32 x1.1) fun x2=>
 bif !decide (x2.2=(0:Int)) then none
 else
 Va (F126 (↑(Vb x1.1.2.2.1):Int)) fun x3=>
 Va
 (Zam
 (decide
 ((0:El (Tr.Ty.int .i64))<=(↑(Vb x1.1.2.2.1):Int)/\
 (↑(Vb x1.1.2.2.1):Int)<=(↑(Vb x1.1.2.2.1):Int)/\
 (↑(Vb x1.1.2.2.1):Int)<=(↑Zan:El (Tr.Ty.int .i64)))))
 fun _=>
 Va
 (run
 (fun s5=>
 bif decide (s5.2< (↑(Vb x1.1.2.2.2.1):Int)) then
 Va (idx x1.1.2.2.2.1 s5.2) fun x6=>
 Va (inb x6.1 (Vb s5.1.2.2.2.2.2.2.1)) fun x7=>
 Va s5.1.2.2.2.2.2.2.1[x7]? fun _=>
 Va (idx s5.1.2.2.2.2.2.2.1 (↑x7:Int)) fun x9=>
 Va (Zam (decide (Vb x9+Vb [s5.2]<=Zan))) fun _=>
 Va (inb x6.1 (Vb s5.1.2.2.2.2.2.2.1)) fun x11=>
 Va (Zam (Zjk (some (Vh (↑x7:Int))) x11)) fun _=>
 Va s5.1.2.2.2.2.2.2.1[x11]? fun _=>
 some
 (.inl
 ((s5.1.1,s5.1.2.1,s5.1.2.2.1,s5.1.2.2.2.1,s5.1.2.2.2.2.1,s5.1.2.2.2.2.2.1,
 Vd s5.1.2.2.2.2.2.2.1 x11 (x9++[s5.2]),()),
 Vc .i64 (s5.2+(1:Int))))
 else
 some
 (.inr
 s5.1))
 ((x1.1,[],[],x3,[],[],Vg (Vh (↑(Vb x1.1.2.2.1):Int)) [],()),(0:Int)))
 fun x14=>
 Va
 (run
 (fun s15=>
 bif decide (s15.2< (↑(Vb x1.1.1):Int)) then
 Va
 (Zam (decide (Vb s15.1.2.2.1+Vb [((-1:Int),(-1:Int),(-1:Int),(-1:Int),(-1:Int),(-1:Int),())]<=Zan)))
 fun _=>
 some
 (.inl
 ((s15.1.1,s15.1.2.1,s15.1.2.2.1++[((-1:Int),(-1:Int),(-1:Int),(-1:Int),(-1:Int),(-1:Int),())],s15.1.2.2.2.1,
 s15.1.2.2.2.2.1,s15.1.2.2.2.2.2.1,s15.1.2.2.2.2.2.2.1,()),
 Vc .i64 (s15.2+(1:Int))))
 else
 some
 (.inr
 s15.1))
 (x14,(0:Int)))
 fun x17=>
 Va
 (bif a1.2.2.2.2.2.2.2.2.2.1 then
 Va (idx x1.1.1 a1.1) fun x18=>
 some
 (x17,
 Vc .i64 (a1.2.2.1+x18.2.2.2.1))
 else
 some
 (x17,a1.2.2.1))
 fun x19=>
 Va
 (F121
 x19.1
 a1.1 a1.2.2.1 x19.2 (-1:Int))
 fun x20=>
 Va
 (F125 x20
 a1.1 a1.2.2.1 (-1:Int))
 fun x21=>
 Va
 (run
 (fun s22=>
 bif decide (s22.2.2<a1.2.2.2.2.1) then
 Va
 (F123
 s22.1
 s22.1.2.2.1)
 fun x23=>
 Va (Zam (decide (Vb s22.2.1+Vb [x23.2.2.1]<=Zan))) fun _=>
 some
 (.inl
 (x23,
 s22.2.1++[x23.2.2.1],Vc .i64 (s22.2.2+(1:Int))))
 else
 some
 (.inr
 (s22.1,
 s22.2.1)))
 (x21,
 [x21.2.2.1],(0:Int)))
 fun x25=>
 some
 (x25.1,
 x25.2,(0:Int))
def F116S:Tr.Spec:= {args:=(.cons (.pd Y31) (.cons (.pd Y33) .nil)),res:=(.cons Pz3 (.cons (.pd Y69) (.cons (.pd Y36) .nil))),fns:=[],α:=Tz1×El Y69×El Y36,f:=fun x=>F116 x.1 x.2.1,unp:=fun z=>(((),(),()),(z.1,z.2.1,z.2.2,())) }
theorem F116_ok:ZaS Tryz.prog 30 F116S:=Zad (rws:=[38]) (zxs:=[99]) (nt:=142) (m:=[(40,[F115S]),(41,[F7S]),(42,[F32S]),(43,[F126S]),(44,[F121S]),(45,[F125S]),(46,[F123S])]) (fn:=Tryz.f30) (hint:=(hS (hS (hS (hS (hS (.seq (hS (.lp ⟨[(12,Pz0),(51,(.pd Y3))],[],[3,8,49,50],[],[],[]⟩ [((.exit 0),⟨[(12,Pz0)],[],[3,8],[],[],[]⟩)] .leaf)) (.seq (hS (.lp ⟨[(12,Pz0),(78,(.pd Y3))],[],[3,8,77],[],[],[]⟩ [((.exit 2),⟨[(12,Pz0)],[],[3,8],[],[],[]⟩)] .leaf)) (hS (.seq (hS (.cnd (some (⟨[],[],[3],[],[],[]⟩,[(.normal,⟨[(12,Pz0),(15,(.pd Y3))],[],[3],[],[],[]⟩)])) .leaf .leaf)) (hS (hS (hS (.seq (hS (.lp ⟨[(12,Pz3),(16,(.own Y72 false)),(124,(.pd Y3))],[],[123],[],[],[]⟩ [((.exit 4),⟨[(12,Pz3),(16,(.own Y72 false))],[],[],[],[],[]⟩)] .leaf)) .leaf)))))))))))))) (pack:=fun y=>(y.2.1,y.2.2.1,y.2.2.2.1)) Za1 tab_ok ⟨⟨F115_ok,trivial⟩,⟨F7_ok,trivial⟩,⟨F32_ok,trivial⟩,⟨F126_ok,trivial⟩,⟨F121_ok,trivial⟩,⟨F125_ok,trivial⟩,⟨F123_ok,trivial⟩,trivial⟩ fun x z h=> .trans (by kernel_rfl) h
def F117: (El Y31)->(El Y33)->Option (Unit×El Y69×El Y36):=fun a0 a1=>
 Va (F115 a0 a1) fun x0=>
 bif !decide (x0=(0:Int)) then some ((),[],x0)
 else
 Va (F7 a0 a1) fun x1=>
 Va (F32 x1.1) fun x2=>
 bif !decide (x2.2=(0:Int)) then some ((),[],x2.2)
 else
 Va (F126 (↑(Vb x1.1.2.2.1):Int)) fun x3=>
 Va
 (Zam
 (decide
 ((0:El (Tr.Ty.int .i64))<=(↑(Vb x1.1.2.2.1):Int)/\
 (↑(Vb x1.1.2.2.1):Int)<=(↑(Vb x1.1.2.2.1):Int)/\
 (↑(Vb x1.1.2.2.1):Int)<=(↑Zan:El (Tr.Ty.int .i64)))))
 fun _=>
 Va
 (run
 (fun s5=>
 bif decide (s5.2< (↑(Vb x1.1.2.2.2.1):Int)) then
 Va (idx x1.1.2.2.2.1 s5.2) fun x6=>
 Va (inb x6.1 (Vb s5.1.2.2.2.2.2.2.1)) fun x7=>
 Va s5.1.2.2.2.2.2.2.1[x7]? fun _=>
 Va (idx s5.1.2.2.2.2.2.2.1 (↑x7:Int)) fun x9=>
 Va (Zam (decide (Vb x9+Vb [s5.2]<=Zan))) fun _=>
 Va (inb x6.1 (Vb s5.1.2.2.2.2.2.2.1)) fun x11=>
 Va (Zam (Zjk (some (Vh (↑x7:Int))) x11)) fun _=>
 Va s5.1.2.2.2.2.2.2.1[x11]? fun _=>
 some
 (.inl
 ((s5.1.1,s5.1.2.1,s5.1.2.2.1,s5.1.2.2.2.1,s5.1.2.2.2.2.1,s5.1.2.2.2.2.2.1,
 Vd s5.1.2.2.2.2.2.2.1 x11 (x9++[s5.2]),()),
 Vc .i64 (s5.2+(1:Int))))
 else
 some
 (.inr
 s5.1))
 ((x1.1,[],[],x3,[],[],Vg (Vh (↑(Vb x1.1.2.2.1):Int)) [],()),(0:Int)))
 fun x14=>
 Va
 (run
 (fun s15=>
 bif decide (s15.2< (↑(Vb x1.1.1):Int)) then
 Va
 (Zam (decide (Vb s15.1.2.2.1+Vb [((-1:Int),(-1:Int),(-1:Int),(-1:Int),(-1:Int),(-1:Int),())]<=Zan)))
 fun _=>
 some
 (.inl
 ((s15.1.1,s15.1.2.1,s15.1.2.2.1++[((-1:Int),(-1:Int),(-1:Int),(-1:Int),(-1:Int),(-1:Int),())],s15.1.2.2.2.1,
 s15.1.2.2.2.2.1,s15.1.2.2.2.2.2.1,s15.1.2.2.2.2.2.2.1,()),
 Vc .i64 (s15.2+(1:Int))))
 else
 some
 (.inr
 s15.1))
 (x14,(0:Int)))
 fun x17=>
 Va
 (bif a1.2.2.2.2.2.2.2.2.2.1 then
 Va (idx x1.1.1 a1.1) fun x18=>
 some
 (x17,
 Vc .i64 (a1.2.2.1+x18.2.2.2.1))
 else
 some
 (x17,a1.2.2.1))
 fun x19=>
 Va
 (F121
 x19.1
 a1.1 a1.2.2.1 x19.2 (-1:Int))
 fun x20=>
 Va
 (F125 x20
 a1.1 a1.2.2.1 (-1:Int))
 fun x21=>
 Va
 (run
 (fun s22=>
 bif decide (s22.2.2<a1.2.2.2.2.1) then
 Va
 (F123
 s22.1
 s22.1.2.2.1)
 fun x23=>
 Va (Zam (decide (Vb s22.2.1+Vb [x23.2.2.1]<=Zan))) fun _=>
 some
 (.inl
 (x23,
 s22.2.1++[x23.2.2.1],Vc .i64 (s22.2.2+(1:Int))))
 else
 some
 (.inr
 (s22.1,
 s22.2.1)))
 (x21,
 [x21.2.2.1],(0:Int)))
 fun _=>none
def F117S:Tr.Spec:= {args:=(.cons (.pd Y31) (.cons (.pd Y33) .nil)),res:=(.cons .nilr (.cons (.pd Y69) (.cons (.pd Y36) .nil))),fns:=[],α:=Unit×El Y69×El Y36,f:=fun x=>F117 x.1 x.2.1,unp:=fun z=>(((),(),()),(z.1,z.2.1,z.2.2,())) }
theorem F117_ok:ZaS Tryz.prog 30 F117S:=Zad (rws:=[38]) (zxs:=[99]) (nt:=142) (m:=[(40,[F115S]),(41,[F7S]),(42,[F32S]),(43,[F126S]),(44,[F121S]),(45,[F125S]),(46,[F123S])]) (fn:=Tryz.f30) (hint:=(hS (hS (hS (hS (hS (.seq (hS (.lp ⟨[(12,Pz0),(51,(.pd Y3))],[],[3,8,49,50],[],[],[]⟩ [((.exit 0),⟨[(12,Pz0)],[],[3,8],[],[],[]⟩)] .leaf)) (.seq (hS (.lp ⟨[(12,Pz0),(78,(.pd Y3))],[],[3,8,77],[],[],[]⟩ [((.exit 2),⟨[(12,Pz0)],[],[3,8],[],[],[]⟩)] .leaf)) (hS (.seq (hS (.cnd (some (⟨[],[],[3],[],[],[]⟩,[(.normal,⟨[(12,Pz0),(15,(.pd Y3))],[],[3],[],[],[]⟩)])) .leaf .leaf)) (hS (hS (hS (.seq (hS (.lp ⟨[(12,Pz3),(16,(.own Y72 false)),(124,(.pd Y3))],[],[123],[],[],[]⟩ [((.exit 4),⟨[(12,Pz3),(16,(.own Y72 false))],[],[],[],[],[]⟩)] .leaf)) .leaf)))))))))))))) (pack:=fun y=>(y.2.1,y.2.2.1,y.2.2.2.1)) Za1 tab_ok ⟨⟨F115_ok,trivial⟩,⟨F7_ok,trivial⟩,⟨F32_ok,trivial⟩,⟨F126_ok,trivial⟩,⟨F121_ok,trivial⟩,⟨F125_ok,trivial⟩,⟨F123_ok,trivial⟩,trivial⟩ fun x z h=> .trans (by kernel_rfl) h
def F111: (El Y31)->(El Y33)->Option (El Y38×El Y36):=fun a0 a1=>
 bif Vi (F116S.f (a0,a1,())) then
 Va (F116 a0 a1) fun x0=>
 Va
 (run
 (fun s1=>
 bif decide (s1.2< (↑(Vb x0.2.1):Int)) then
 Va (idx x0.2.1 s1.2) fun x2=>
 Va
 (run
 (fun s3=>
 bif decide (s3.2.2< (↑(Vb x2):Int)) then
 Va (idx x2 s3.2.2) fun x4=>
 Va (Zam (decide (Vb s3.2.1+Vb [x4.1]<=Zan))) fun _=>
 some (.inl (s3.1,s3.2.1++[x4.1],Vc .i64 (s3.2.2+(1:Int))))
 else some (.inr (s3.1,s3.2.1)))
 (s1.1,[],(0:Int)))
 fun x6=>
 Va (Zam (decide (Vb x6.1+Vb [x6.2]<=Zan))) fun _=>
 some (.inl (x6.1++[x6.2],Vc .i64 (s1.2+(1:Int))))
 else some (.inr s1.1))
 ([],(0:Int)))
 fun x8=>some (x8,x0.2.2)
 else
 Va (F117 a0 a1) fun x9=>
 Va
 (run
 (fun s10=>
 bif decide (s10.2< (↑(Vb x9.2.1):Int)) then
 Va (idx x9.2.1 s10.2) fun x11=>
 Va
 (run
 (fun s12=>
 bif decide (s12.2.2< (↑(Vb x11):Int)) then
 Va (idx x11 s12.2.2) fun x13=>
 Va (Zam (decide (Vb s12.2.1+Vb [x13.1]<=Zan))) fun _=>
 some (.inl (s12.1,s12.2.1++[x13.1],Vc .i64 (s12.2.2+(1:Int))))
 else some (.inr (s12.1,s12.2.1)))
 (s10.1,[],(0:Int)))
 fun x15=>
 Va (Zam (decide (Vb x15.1+Vb [x15.2]<=Zan))) fun _=>
 some (.inl (x15.1++[x15.2],Vc .i64 (s10.2+(1:Int))))
 else some (.inr s10.1))
 ([],(0:Int)))
 fun x17=>some (x17,x9.2.2)
def F111S:Tr.Spec:= {args:=(.cons (.pd Y31) (.cons (.pd Y33) .nil)),res:=(.cons (.pd Y38) (.cons (.pd Y36) .nil)),fns:=[],α:=El Y38×El Y36,f:=fun x=>F111 x.1 x.2.1,unp:=fun z=>(((),(),()),(z.1,z.2,())) }
theorem F111_ok:ZaS Tryz.prog 14 F111S:=Zad (rws:=[]) (zxs:=[]) (nt:=47) (m:=[(30,[F116S,F117S])]) (fn:=Tryz.f14) (hint:=(hS (hS (hS (.seq (hS (.lp ⟨[(9,(.own Y52 false)),(24,(.pd Y3))],[],[8,22,23],[],[],[]⟩ [((.exit 0),⟨[(9,(.own Y52 false))],[],[8],[],[],[]⟩)] (hS (hS (.seq (hS (hS (.seq (hS (.lp ⟨[(9,(.own Y52 false)),(12,(.own Y3 false)),(30,(.pd Y3))],[],[8,22,23,24,28,29],[],[],[]⟩ [((.exit 2),⟨[(9,(.own Y52 false)),(12,(.own Y3 false))],[],[8,22,23,24],[],[],[]⟩)] .leaf)) .leaf))) .leaf))))) .leaf))))) (pack:=fun y=>(y.2.1,y.2.2.1)) Za1 tab_ok ⟨⟨F116_ok,F117_ok,trivial⟩,trivial⟩ fun x z h=> .trans (by kernel_rfl) h
def F122: (Tz1)->(El Y3)->Option (Tz1×El Y43):=fun a0 a1=>
 Va
 (run
 (fun s0=>
 bif !decide (s0.2.1=(-1:Int)) then
 Va (inb s0.2.1 (Vb s0.1.2.1)) fun x1=>
 Va s0.1.2.1[x1]? fun x2=>
 Va (Zam (decide (Vb s0.2.2+Vb [x2.1]<=Zan))) fun _=>
 Va (inb s0.2.1 (Vb s0.1.2.1)) fun x4=>
 Va s0.1.2.1[x4]? fun x5=>
 some
 (.inl
 (s0.1,
 x5.2.1,s0.2.2++[x2.1]))
 else
 some
 (.inr
 (s0.1,
 s0.2.2)))
 (a0,a1,[]))
 fun x6=>
 Va
 (Zam
 (decide
 ((0:El (Tr.Ty.int .i64))<=(↑(Vb x6.2):Int)/\
 (↑(Vb x6.2):Int)<=(↑(Vb x6.2):Int)/\(↑(Vb x6.2):Int)<=(↑Zan:El (Tr.Ty.int .i64)))))
 fun _=>
 Va
 (run
 (fun s8=>
 bif decide (s8.2.2.2< (↑(Vb x6.2):Int)) then
 Va (inb s8.2.2.2 (Vb s8.2.1)) fun x9=>
 Va s8.2.1[x9]? fun x10=>
 Va (inb (Vc .i64 (Vc .i64 ((↑(Vb s8.2.1):Int) - (1:Int)) - s8.2.2.2)) (Vb s8.2.2.1))
 fun x11=>
 Va s8.2.2.1[x11]? fun _=>
 some
 (.inl
 (s8.1,
 s8.2.1,Vd s8.2.2.1 x11 x10,Vc .i64 (s8.2.2.2+(1:Int))))
 else
 some
 (.inr
 (s8.1,
 s8.2.2.1)))
 (x6.1,x6.2,
 Vg (Vh (↑(Vb x6.2):Int)) ((false,(0:Int),(0:Int),(0:Int),(0:Int),(0:Int),(0:Int),(0:Int),false,())),(0:Int)))
 fun x13=>
 Va
 (bif decide ((1:Int)< (↑(Vb x13.2):Int)) then
 Va (inb (0:Int) (Vb x13.2)) fun x14=>Va x13.2[x14]? fun x15=>some !x15.1
 else some false)
 fun x16=>
 bif x16 then
 Va (inb (0:Int) (Vb x13.2)) fun x17=>
 Va (inb (1:Int) (Vb x13.2)) fun x18=>
 Va x13.2[x18]? fun x19=>
 Va x13.2[x17]? fun x20=>
 Va x13.2[x17]? fun x21=>
 Va (inb (1:Int) (Vb x13.2)) fun x22=>
 Va x13.2[x22]? fun x23=>
 Va x13.2[x17]? fun x24=>
 Va
 (Vd x13.2 x17
 (x24.1,x24.2.1,x24.2.2.1,x24.2.2.2.1,x24.2.2.2.2.1,x24.2.2.2.2.2.1,
 Vc .i64
 (x19.2.2.2.2.2.2.1 - Vc .i64 (x20.2.2.2.2.2.2.2.1 - x21.2.2.2.2.2.2.1)),
 x24.2.2.2.2.2.2.2))[x17]?
 fun x25=>
 some
 (x13.1,
 Vd
 (Vd x13.2 x17
 (x24.1,x24.2.1,x24.2.2.1,x24.2.2.2.1,x24.2.2.2.2.1,x24.2.2.2.2.2.1,
 Vc .i64
 (x19.2.2.2.2.2.2.1 - Vc .i64 (x20.2.2.2.2.2.2.2.1 - x21.2.2.2.2.2.2.1)),
 x24.2.2.2.2.2.2.2))
 x17
 (x25.1,x25.2.1,x25.2.2.1,x25.2.2.2.1,x25.2.2.2.2.1,x25.2.2.2.2.2.1,x25.2.2.2.2.2.2.1,
 x23.2.2.2.2.2.2.1,x25.2.2.2.2.2.2.2.2),
 ())
 else
 some
 (x13.1,
 x13.2,())
def F122S:Tr.Spec:= {args:=(.cons Pz3 (.cons (.pd Y3) .nil)),res:=(.cons (.pd Y43) .nil),fns:=[],α:=Tz1×El Y43,f:=fun x=>F122 x.1 x.2.1,unp:=fun z=>((z.1,(),()),(z.2,())) }
theorem F122_ok:ZaS Tryz.prog 31 F122S:=Zad (rws:=[]) (zxs:=[]) (nt:=88) (m:=[]) (fn:=Tryz.f31) (hint:=(hS (hS (.seq (.lp ⟨[(0,Pz3),(1,(.pd Y3)),(5,(.own Y66 false))],[],[4],[],[],[]⟩ [((.exit 0),⟨[(0,Pz3),(5,(.own Y66 false))],[],[4],[],[],[]⟩)] .leaf) (hS (.seq (hS (.lp ⟨[(0,Pz3),(5,(.own Y66 false)),(6,(.own Y66 false)),(35,(.pd Y3))],[],[4,34],[],[],[]⟩ [((.exit 2),⟨[(0,Pz3),(6,(.own Y66 false))],[],[4],[],[],[]⟩)] .leaf)) (.seq (.seq (.reg [(59,Y4)]) .leaf) .leaf))))))) (pack:=fun y=>(y.1.1,y.2.1)) Za1 tab_ok trivial fun x z h=> .trans (by kernel_rfl) h
def F112: (El Y31)->(El Y33)->Option (El Y43×El Y36):=fun a0 a1=>
 bif Vi (F116S.f (a0,a1,())) then
 Va (F116 a0 a1) fun x0=>
 bif !decide (x0.2.2=(0:Int)) then some ((([]:List (El Y66)),()),x0.2.2)
 else
 Va (idx x0.2.1 (Vc .i64 ((↑(Vb x0.2.1):Int) - (1:Int)))) fun x1=>
 Va (idx x1 a1.2.1) fun x2=>
 bif decide (x2.1=(-1:Int)) then some ((([]:List (El Y66)),()),(23:Int))
 else
 Va
 (run
 (fun s3=>
 Va (idx x0.2.1 s3.2) fun x4=>
 Va (idx x4 a1.2.1) fun x5=>
 bif !decide (x5.1=x2.1) then
 some
 (.inl
 (s3.1,
 Vc .i64 (s3.2+(1:Int))))
 else
 some
 (.inr
 (s3.1,
 s3.2)))
 (x0.1,
 (0:Int)))
 fun x6=>
 Va (idx x0.2.1 x6.2) fun x7=>
 Va (idx x7 a1.2.1) fun x8=>
 Va
 (F122
 x6.1
 x8.2.2.2.1)
 fun x9=>some (x9.2,(0:Int))
 else
 Va (F117 a0 a1) fun x10=>
 bif !decide (x10.2.2=(0:Int)) then some ((([]:List (El Y66)),()),x10.2.2)
 else
 Va (idx x10.2.1 (Vc .i64 ((↑(Vb x10.2.1):Int) - (1:Int)))) fun x11=>
 Va (idx x11 a1.2.1) fun x12=>bif decide (x12.1=(-1:Int)) then some ((([]:List (El Y66)),()),(23:Int)) else none
def F112S:Tr.Spec:= {args:=(.cons (.pd Y31) (.cons (.pd Y33) .nil)),res:=(.cons (.pd Y43) (.cons (.pd Y36) .nil)),fns:=[],α:=El Y43×El Y36,f:=fun x=>F112 x.1 x.2.1,unp:=fun z=>(((),(),()),(z.1,z.2,())) }
theorem F112_ok:ZaS Tryz.prog 15 F112S:=Zad (rws:=[]) (zxs:=[]) (nt:=60) (m:=[(30,[F116S,F117S]),(31,[F122S])]) (fn:=Tryz.f15) (hint:=(hS (hS (hS (hS (hS (hS (.seq (.lp ⟨[(6,Pz3),(10,(.pd Y3))],[],[3,4,7,9],[],[],[]⟩ [((.exit 0),⟨[(6,Pz3),(10,(.pd Y3))],[],[3,4,7],[],[],[]⟩)] .leaf) .leaf)))))))) (pack:=fun y=>(y.2.1,y.2.2.1)) Za1 tab_ok ⟨⟨F116_ok,F117_ok,trivial⟩,⟨F122_ok,trivial⟩,trivial⟩ fun x z h=> .trans (by kernel_rfl) h
def F113: (El Y31)->(El Y33)->(El Y3)->Option (El Y3×El Y4):=fun a0 a1 a2=>
 Va (F111 a0 a1) fun x0=>
 bif !decide (x0.2=(0:Int)) then some ((0:Int),false)
 else
 Va
 (run
 (fun s1=>
 bif decide (s1< (↑(Vb x0.1):Int)) then
 Va (idx x0.1 s1) fun x2=>
 Va (idx x2 a1.2.1) fun x3=>
 Va (bif !decide (x3=(-1:Int)) then some (decide (x3<=a2)) else some false) fun x4=>
 bif x4 then some (.inr (.inr (s1,true))) else some (.inl (Vc .i64 (s1+(1:Int))))
 else some (.inr (.inl ())))
 (0:Int))
 fun x5=>Vf (fun _=>some ((0:Int),false)) (fun y7=>some (y7.1,y7.2)) x5
def F113S:Tr.Spec:= {args:=(.cons (.pd Y31) (.cons (.pd Y33) (.cons (.pd Y3) .nil))),res:=(.cons (.pd Y3) (.cons (.pd Y4) .nil)),fns:=[],α:=El Y3×El Y4,f:=fun x=>F113 x.1 x.2.1 x.2.2.1,unp:=fun z=>(((),(),(),()),(z.1,z.2,())) }
theorem F113_ok:ZaS Tryz.prog 16 F113S:=Zad (rws:=[]) (zxs:=[]) (nt:=42) (m:=[(14,[F111S])]) (fn:=Tryz.f16) (hint:=(hS (hS (hS (.seq (hS (.lp ⟨[(22,(.pd Y3))],[],[2,4,8,21],[],[],[]⟩ [((.exit 0),⟨[],[],[],[],[],[]⟩),(.ret,⟨[(6,(.pd Y3)),(7,(.pd Y4))],[],[],[],[],[]⟩)] (hS (hS (.seq (hS (hS (.seq (.reg [(39,Y4)]) .leaf))) .leaf))))) .leaf))))) (pack:=fun y=>(y.2.1,y.2.2.1)) Za1 tab_ok ⟨⟨F111_ok,trivial⟩,trivial⟩ fun x z h=> .trans (by kernel_rfl) h
def F27: (El Y3)->(El Y3)->Option (El Y87):=fun a0 a1=>some (a0,a1,a1,true,true,())
def F27S:Tr.Spec:= {args:=(.cons (.pd Y3) (.cons (.pd Y3) .nil)),res:=(.cons (.pd Y87) .nil),fns:=[],α:=El Y87,f:=fun x=>F27 x.1 x.2.1,unp:=fun z=>(((),(),()),(z,())) }
theorem F27_ok:ZaS Tryz.prog 37 F27S:=Zad (rws:=[]) (zxs:=[]) (nt:=9) (m:=[]) (fn:=Tryz.f37) (hint:= .leaf) (pack:=fun y=>y.2.1) Za1 tab_ok trivial fun x z h=> .trans (by kernel_rfl) h
def F28:Option (El Y31):=Va (F27 (0:Int) (100:Int)) fun x0=>
 Va (F27 (1:Int) (200:Int)) fun x1=>
 Va (F27 (1:Int) (230:Int)) fun x2=>
 Va (F27 (2:Int) (300:Int)) fun x3=>
 Va (F27 (1:Int) (260:Int)) fun x4=>
 Va (F27 (2:Int) (400:Int)) fun x5=>
 some
 ([([(65:UInt8)],(0:Int),false,(60:Int),()),([(66:UInt8)],(0:Int),false,(60:Int),()),
 ([(67:UInt8)],(0:Int),false,(60:Int),())],
 [([(82:UInt8)],(0:Int),false,())],
 [((0:Int),(0:Int),(0:Int),[(114:UInt8),(48:UInt8)],(0:Int),false,false,[x0,x1],()),
 ((0:Int),(0:Int),(0:Int),[(114:UInt8),(49:UInt8)],(0:Int),false,false,[x2,x3],()),
 ((0:Int),(0:Int),(0:Int),[(114:UInt8),(50:UInt8)],(0:Int),false,false,[x4,x5],())],
 ([]:List (El Y63)),[((0:Int),(1:Int),(500:Int),false,())],(([]:List (El Zva)),(0:Int),(0:Int),(0:Int),()),())
abbrev F28A:Zbn:= .nil
abbrev F28R:Zbn:=(.cons (.pd Y31) .nil)
def F28S:Tr.Spec:= {args:=F28A,res:=F28R,fns:=[],α:=El Y31,f:=fun _=>F28,unp:=fun z=>((),(z,())) }
def F28M:List (Nat×List Tr.Spec):=[(37,[F27S])]
def F28H:Zif:= .leaf
theorem F28_eq:(ZqB (mkE tyTab mapTab pkTab [] [] F28M 27 bdTab) (ZpN Tryz.f26) Tryz.f26.results F28H F28A F28R (fun y=>y.2.1) (()):Option (El Y31))=F28:=by kernel_rfl
theorem F28_ok:ZaS Tryz.prog 26 F28S:=Zad (m:=F28M) (fn:=Tryz.f26) (hint:=F28H) (pack:=fun y=>y.2.1) Za1 tab_ok ⟨⟨F27_ok,trivial⟩,trivial⟩ fun _ z h=>(F28_eq).trans h
def F30: (El Y52)->(El Y52)->Option (El Y4):=fun a0 a1=>
 bif !decide ((↑(Vb a0):Int)=(↑(Vb a1):Int)) then some false
 else
 Va
 (run
 (fun s0=>
 bif decide (s0< (↑(Vb a0):Int)) then
 Va (idx a0 s0) fun x1=>
 Va (idx a1 s0) fun x2=>
 bif !decide (x1=x2) then some (.inr (.inr false)) else some (.inl (Vc .i64 (s0+(1:Int))))
 else some (.inr (.inl ())))
 (0:Int))
 fun x3=>Vf (fun _=>some true) (fun y5=>some y5) x3
def F30S:Tr.Spec:= {args:=(.cons (.pd Y52) (.cons (.pd Y52) .nil)),res:=(.cons (.pd Y4) .nil),fns:=[],α:=El Y4,f:=fun x=>F30 x.1 x.2.1,unp:=fun z=>(((),(),()),(z,())) }
theorem F30_ok:ZaS Tryz.prog 27 F30S:=Zad (rws:=[]) (zxs:=[]) (nt:=26) (m:=[]) (fn:=Tryz.f27) (hint:=(hS (hS (.seq (hS (.lp ⟨[(5,(.pd Y3))],[],[0,1],[],[],[]⟩ [((.exit 0),⟨[],[],[],[],[],[]⟩),(.ret,⟨[(4,(.pd Y4))],[],[],[],[],[]⟩)] .leaf)) .leaf)))) (pack:=fun y=>y.2.1) Za1 tab_ok trivial fun x z h=> .trans (by kernel_rfl) h
def F29:Option (El Y4):=Va F28 fun x0=>
 Va (F111 x0 ((0:Int),(2:Int),(0:Int),false,(2:Int),(0:Int),false,false,(0:Int),false,())) fun x1=>
 Va (F112 x0 ((0:Int),(2:Int),(0:Int),false,(2:Int),(0:Int),false,false,(0:Int),false,())) fun x2=>
 Va (F113 x0 ((0:Int),(2:Int),(0:Int),false,(2:Int),(0:Int),false,false,(0:Int),false,()) (400:Int)) fun x3=>
 Va (F113 x0 ((0:Int),(2:Int),(0:Int),false,(2:Int),(0:Int),false,false,(0:Int),false,()) (399:Int)) fun x4=>
 Va F28 fun x5=>
 Va
 (F111 (x5.1,x5.2.1,x5.2.2.1,[((0:Int),(1:Int),(1:Int),(0:Int),false,())],x5.2.2.2.2.1,x5.2.2.2.2.2.1,())
 ((0:Int),(2:Int),(0:Int),false,(2:Int),(0:Int),false,false,(0:Int),false,()))
 fun x6=>
 Va
 (bif !decide ((↑(Vb x1.1):Int)=(3:Int)) then some true
 else bif !decide ((↑(Vb x6.1):Int)=(3:Int)) then some true else some !decide ((↑(Vb x2.1.1):Int)=(2:Int)))
 fun x7=>
 bif x7 then some false
 else
 bif decide (x1.2=(0:Int)) then
 Va (idx x1.1 (0:Int)) fun x8=>
 Va (F30 x8 [(0:Int),(500:Int),(-1:Int)]) fun x9=>
 bif x9 then
 Va (idx x1.1 (1:Int)) fun x10=>
 Va (F30 x10 [(0:Int),(200:Int),(-1:Int)]) fun x11=>
 bif x11 then
 Va (idx x1.1 (2:Int)) fun x12=>
 Va (F30 x12 [(0:Int),(200:Int),(400:Int)]) fun x13=>
 bif x13 then
 bif decide (x2.2=(0:Int)) then
 Va (idx x2.1.1 (0:Int)) fun x14=>
 bif decide (x14.2.1=(0:Int)) then
 Va (idx x2.1.1 (1:Int)) fun x15=>
 bif decide (x15.2.1=(2:Int)) then
 Va (idx x2.1.1 (1:Int)) fun x16=>
 bif decide (x16.2.2.2.2.2.2.2.1=(400:Int)) then
 bif decide (x3.1=(2:Int)) then
 bif x3.2 then
 bif !x4.2 then
 bif decide (x6.2=(0:Int)) then
 Va (idx x6.1 (2:Int)) fun x17=>
 Va (F30 x17 [(0:Int),(200:Int),(300:Int)]) fun x18=>some x18
 else some false
 else some false
 else some false
 else some false
 else some false
 else some false
 else some false
 else some false
 else some false
 else some false
 else some false
 else some false
abbrev F29A:Zbn:= .nil
abbrev F29R:Zbn:=(.cons (.pd Y4) .nil)
def F29S:Tr.Spec:= {args:=F29A,res:=F29R,fns:=[],α:=El Y4,f:=fun _=>F29,unp:=fun z=>((),(z,())) }
def F29M:List (Nat×List Tr.Spec):=[(14,[F111S]),(15,[F112S]),(16,[F113S]),(26,[F28S]),(27,[F30S])]
def F29H:Zif:=(hS (hS (hS (hS (hS (hS (hS (hS (hS (.seq (.seq (.reg [(63,Y4)]) .leaf) .leaf))))))))))
theorem F29_eq:(ZqB (mkE tyTab mapTab pkTab [] [] F29M 137 bdTab) (ZpN Tryz.f12) Tryz.f12.results F29H F29A F29R (fun y=>y.2.1) (()):Option (El Y4))=F29:=by kernel_rfl
theorem F29_ok:ZaS Tryz.prog 12 F29S:=Zad (m:=F29M) (fn:=Tryz.f12) (hint:=F29H) (pack:=fun y=>y.2.1) Za1 tab_ok ⟨⟨F111_ok,trivial⟩,⟨F112_ok,trivial⟩,⟨F113_ok,trivial⟩,⟨F28_ok,trivial⟩,⟨F30_ok,trivial⟩,trivial⟩ fun _ z h=>(F29_eq).trans h
def F64: (El Y9)->Option (El Y4):=fun a0=>
 Va (bif decide ((↑(Vb a0):Int)< (1:Int)) then some true else some (decide ((32:Int)< (↑(Vb a0):Int)))) fun x0=>
 bif x0 then some false
 else
 Va
 (run
 (fun s1=>
 bif decide (s1< (↑(Vb a0):Int)) then
 Va (idx a0 s1) fun x2=>
 Va
 (bif decide ((97:Int)<=(↑(Ve x2):Int)) then
 bif decide ((↑(Ve x2):Int)<=(122:Int)) then some true
 else
 bif decide ((65:Int)<=(↑(Ve x2):Int)) then
 bif decide ((↑(Ve x2):Int)<=(90:Int)) then some true
 else bif decide ((48:Int)<=(↑(Ve x2):Int)) then some (decide ((↑(Ve x2):Int)<=(57:Int))) else some false
 else bif decide ((48:Int)<=(↑(Ve x2):Int)) then some (decide ((↑(Ve x2):Int)<=(57:Int))) else some false
 else
 bif decide ((65:Int)<=(↑(Ve x2):Int)) then
 bif decide ((↑(Ve x2):Int)<=(90:Int)) then some true
 else bif decide ((48:Int)<=(↑(Ve x2):Int)) then some (decide ((↑(Ve x2):Int)<=(57:Int))) else some false
 else bif decide ((48:Int)<=(↑(Ve x2):Int)) then some (decide ((↑(Ve x2):Int)<=(57:Int))) else some false)
 fun x3=>
 Va
 (bif !x3 then
 bif !decide ((↑(Ve x2):Int)=(45:Int)) then
 bif !decide ((↑(Ve x2):Int)=(95:Int)) then some !decide ((↑(Ve x2):Int)=(46:Int)) else some false
 else some false
 else some false)
 fun x4=>bif x4 then some (.inr (.inr false)) else some (.inl (Vc .i64 (s1+(1:Int))))
 else some (.inr (.inl ())))
 (0:Int))
 fun x5=>Vf (fun _=>some true) (fun y7=>some y7) x5
def F64S:Tr.Spec:= {args:=(.cons (.pd Y9) .nil),res:=(.cons (.pd Y4) .nil),fns:=[],α:=El Y4,f:=fun x=>F64 x.1,unp:=fun z=>(((),()),(z,())) }
theorem F64_ok:ZaS Tryz.prog 79 F64S:=Zad (rws:=[]) (zxs:=[]) (nt:=59) (m:=[]) (fn:=Tryz.f79) (hint:=(hS (.seq (.seq (.reg [(13,Y4)]) .leaf) (.seq (hS (.lp ⟨[(3,(.pd Y3))],[],[0],[],[],[]⟩ [((.exit 0),⟨[],[],[],[],[],[]⟩),(.ret,⟨[(2,(.pd Y4))],[],[],[],[],[]⟩)] (hS (.seq (hS (.seq (.reg [(5,Y4)]) (.seq (.reg [(58,Y4)]) .leaf))) .leaf)))) .leaf)))) (pack:=fun y=>y.2.1) Za1 tab_ok trivial fun x z h=> .trans (by kernel_rfl) h
def F65: (El Y3)->(El Y3)->(El Y3)->Option (El Y4):=fun a0 a1 a2=>Va (bif decide (a1<=a0) then some (decide (a0<=a2)) else some false) fun x0=>some x0
def F65S:Tr.Spec:= {args:=(.cons (.pd Y3) (.cons (.pd Y3) (.cons (.pd Y3) .nil))),res:=(.cons (.pd Y4) .nil),fns:=[],α:=El Y4,f:=fun x=>F65 x.1 x.2.1 x.2.2.1,unp:=fun z=>(((),(),(),()),(z,())) }
theorem F65_ok:ZaS Tryz.prog 80 F65S:=Zad (rws:=[]) (zxs:=[]) (nt:=15) (m:=[]) (fn:=Tryz.f80) (hint:=(hS (.seq (.reg [(6,Y4)]) .leaf))) (pack:=fun y=>y.2.1) Za1 tab_ok trivial fun x z h=> .trans (by kernel_rfl) h
def F71: (El Y22)->Option (El Y3×El Y36):=fun a0=>
 bif decide ((64:Int)< (↑(Vb a0):Int)) then some ((0:Int),(5:Int))
 else
 Va
 (run
 (fun s0=>
 bif decide (s0< (↑(Vb a0):Int)) then
 Va (idx a0 s0) fun x1=>
 Va (F64 x1.1) fun x2=>
 bif !x2 then some (.inr (.inr (s0,(12:Int))))
 else
 Va
 (run
 (fun s3=>
 bif decide (s3<s0) then
 Va (idx a0 s3) fun x4=>
 Va (idx a0 s0) fun x5=>
 bif decide (x4.1=x5.1) then some (.inr (.inr (s0,(6:Int)))) else some (.inl (Vc .i64 (s3+(1:Int))))
 else some (.inr (.inl ())))
 (0:Int))
 fun x6=>
 Vf
 (fun _=>
 Va
 (Va (idx a0 s0) fun x8=>
 Va (F65 x8.2.1 (0:Int) (15:Int)) fun x9=>
 bif !x9 then some true
 else Va (idx a0 s0) fun x10=>Va (F65 x10.2.2.2.1 (0:Int) (3600:Int)) fun x11=>some !x11)
 fun x12=>bif x12 then some (.inr (.inr (s0,(2:Int)))) else some (.inl (Vc .i64 (s0+(1:Int)))))
 (fun y13=>some (.inr (.inr (y13.1,y13.2)))) x6
 else some (.inr (.inl ())))
 (0:Int))
 fun x14=>Vf (fun _=>some ((0:Int),(0:Int))) (fun y16=>some (y16.1,y16.2)) x14
def F71S:Tr.Spec:= {args:=(.cons (.pd Y22) .nil),res:=(.cons (.pd Y3) (.cons (.pd Y36) .nil)),fns:=[],α:=El Y3×El Y36,f:=fun x=>F71 x.1,unp:=fun z=>(((),()),(z.1,z.2,())) }
theorem F71_ok:ZaS Tryz.prog 53 F71S:=Zad (rws:=[]) (zxs:=[]) (nt:=57) (m:=[(79,[F64S]),(80,[F65S])]) (fn:=Tryz.f53) (hint:=(hS (hS (.seq (hS (.lp ⟨[(4,(.pd Y3))],[],[0],[],[],[]⟩ [((.exit 0),⟨[],[],[],[],[],[]⟩),(.ret,⟨[(2,(.pd Y3)),(3,(.pd Y36))],[],[],[],[],[]⟩)] (hS (.seq (hS (.seq (hS (.lp ⟨[(5,(.pd Y3))],[],[0,4],[],[],[]⟩ [((.exit 2),⟨[],[],[0,4],[],[],[]⟩),(.ret,⟨[(2,(.pd Y3)),(3,(.pd Y36))],[],[],[],[],[]⟩)] .leaf)) (.seq (.reg [(55,Y4)]) .leaf))) .leaf)))) .leaf)))) (pack:=fun y=>(y.2.1,y.2.2.1)) Za1 tab_ok ⟨⟨F64_ok,trivial⟩,⟨F65_ok,trivial⟩,trivial⟩ fun x z h=> .trans (by kernel_rfl) h
def F69: (El Y23)->Option (El Y3×El Y36):=fun a0=>
 bif decide ((64:Int)< (↑(Vb a0):Int)) then some ((0:Int),(5:Int))
 else
 Va
 (run
 (fun s0=>
 bif decide (s0< (↑(Vb a0):Int)) then
 Va (idx a0 s0) fun x1=>
 Va (F64 x1.1) fun x2=>
 bif !x2 then some (.inr (.inr (s0,(12:Int))))
 else
 Va
 (run
 (fun s3=>
 bif decide (s3<s0) then
 Va (idx a0 s3) fun x4=>
 Va (idx a0 s0) fun x5=>
 bif decide (x4.1=x5.1) then some (.inr (.inr (s0,(6:Int)))) else some (.inl (Vc .i64 (s3+(1:Int))))
 else some (.inr (.inl ())))
 (0:Int))
 fun x6=>
 Vf
 (fun _=>
 Va (idx a0 s0) fun x8=>
 Va (F65 x8.2.1 (0:Int) (7:Int)) fun x9=>
 bif !x9 then some (.inr (.inr (s0,(2:Int)))) else some (.inl (Vc .i64 (s0+(1:Int)))))
 (fun y10=>some (.inr (.inr (y10.1,y10.2)))) x6
 else some (.inr (.inl ())))
 (0:Int))
 fun x11=>Vf (fun _=>some ((0:Int),(0:Int))) (fun y13=>some (y13.1,y13.2)) x11
def F69S:Tr.Spec:= {args:=(.cons (.pd Y23) .nil),res:=(.cons (.pd Y3) (.cons (.pd Y36) .nil)),fns:=[],α:=El Y3×El Y36,f:=fun x=>F69 x.1,unp:=fun z=>(((),()),(z.1,z.2,())) }
theorem F69_ok:ZaS Tryz.prog 54 F69S:=Zad (rws:=[]) (zxs:=[]) (nt:=48) (m:=[(79,[F64S]),(80,[F65S])]) (fn:=Tryz.f54) (hint:=(hS (hS (.seq (hS (.lp ⟨[(4,(.pd Y3))],[],[0],[],[],[]⟩ [((.exit 0),⟨[],[],[],[],[],[]⟩),(.ret,⟨[(2,(.pd Y3)),(3,(.pd Y36))],[],[],[],[],[]⟩)] (hS (.seq (hS (.seq (hS (.lp ⟨[(5,(.pd Y3))],[],[0,4],[],[],[]⟩ [((.exit 2),⟨[],[],[0,4],[],[],[]⟩),(.ret,⟨[(2,(.pd Y3)),(3,(.pd Y36))],[],[],[],[],[]⟩)] .leaf)) .leaf)) .leaf)))) .leaf)))) (pack:=fun y=>(y.2.1,y.2.2.1)) Za1 tab_ok ⟨⟨F64_ok,trivial⟩,⟨F65_ok,trivial⟩,trivial⟩ fun x z h=> .trans (by kernel_rfl) h
def F57: (El Y58)->(El Y3)->(El Y3)->(El Y3)->Option (El Y36):=fun a0 a1 a2 a3=>
 Va (bif decide ((↑(Vb a0):Int)< (2:Int)) then some true else some (decide ((32:Int)< (↑(Vb a0):Int)))) fun x0=>
 bif x0 then some (5:Int)
 else
 Va
 (run
 (fun s1=>
 bif decide (s1< (↑(Vb a0):Int)) then
 Va (idx a0 s1) fun x2=>
 Va (bif decide (x2.1< (0:Int)) then some true else some (decide (a1<=x2.1))) fun x3=>
 bif x3 then some (.inr (.inr (9:Int)))
 else
 Va
 (bif decide ((0:Int)<s1) then Va (idx a0 (Vc .i64 (s1 - (1:Int)))) fun x4=>some (decide (x4.1=x2.1))
 else some false)
 fun x5=>
 bif x5 then some (.inr (.inr (13:Int)))
 else
 Va
 (bif decide (x2.2.1<a2) then some true
 else
 bif decide (x2.2.2.1<x2.2.1) then some true
 else
 bif decide (a3<x2.2.2.1) then some true
 else
 bif decide ((0:Int)<s1) then
 Va (idx a0 (Vc .i64 (s1 - (1:Int)))) fun x6=>some (decide (x2.2.1<x6.2.2.1))
 else some false)
 fun x7=>bif x7 then some (.inr (.inr (10:Int))) else some (.inl (Vc .i64 (s1+(1:Int))))
 else some (.inr (.inl ())))
 (0:Int))
 fun x8=>Vf (fun _=>some (0:Int)) (fun y10=>some y10) x8
def F57S:Tr.Spec:= {args:=(.cons (.pd Y58) (.cons (.pd Y3) (.cons (.pd Y3) (.cons (.pd Y3) .nil)))),res:=(.cons (.pd Y36) .nil),fns:=[],α:=El Y36,f:=fun x=>F57 x.1 x.2.1 x.2.2.1 x.2.2.2.1,unp:=fun z=>(((),(),(),(),()),(z,())) }
theorem F57_ok:ZaS Tryz.prog 81 F57S:=Zad (rws:=[]) (zxs:=[]) (nt:=83) (m:=[]) (fn:=Tryz.f81) (hint:=(hS (.seq (.seq (.reg [(18,Y4)]) .leaf) (.seq (hS (.lp ⟨[(9,(.pd Y3))],[],[0,1,2,3],[],[],[]⟩ [((.exit 0),⟨[],[],[],[],[],[]⟩),(.ret,⟨[(8,(.pd Y36))],[],[],[],[],[]⟩)] (hS (.seq (hS (.seq (.seq (.reg [(37,Y4)]) .leaf) (.seq (.seq (.reg [(50,Y4)]) .leaf) (.seq (.reg [(82,Y4)]) .leaf)))) .leaf)))) .leaf)))) (pack:=fun y=>y.2.1) Za1 tab_ok trivial fun x z h=> .trans (by kernel_rfl) h
def F70: (El Y31)->(El Y3)->Option (El Y36):=fun a0 a1=>
 Va (idx a0.2.2.1 a1) fun x0=>
 Va (F64 x0.2.2.2.1) fun x1=>
 bif !x1 then some (12:Int)
 else
 Va (bif decide (x0.1< (-1:Int)) then some true else some (decide (x0.2.2.1< (0:Int)))) fun x2=>
 bif x2 then some (2:Int)
 else
 Va (F65 x0.2.1 (0:Int) (36524:Int)) fun x3=>
 bif !x3 then some (11:Int)
 else
 Va
 (bif decide (x0.2.2.2.2.1< (0:Int)) then some true
 else some (decide ((↑(Vb a0.2.1):Int)<=x0.2.2.2.2.1)))
 fun x4=>
 bif x4 then some (9:Int)
 else
 Va (F57 x0.2.2.2.2.2.2.2.1 (↑(Vb a0.1):Int) (0:Int) (3155932800:Int)) fun x5=>
 bif !decide (x5=(0:Int)) then some x5
 else
 Va
 (run
 (fun s6=>
 bif decide (s6<a1) then
 Va (idx a0.2.2.1 s6) fun x7=>
 Va
 (bif decide (x7.2.2.2.1=x0.2.2.2.1) then
 bif decide (x7.2.1=x0.2.1) then some (decide (x7.2.2.1=x0.2.2.1)) else some false
 else some false)
 fun x8=>bif x8 then some (.inr (.inr (6:Int))) else some (.inl (Vc .i64 (s6+(1:Int))))
 else some (.inr (.inl ())))
 (0:Int))
 fun x9=>Vf (fun _=>some (0:Int)) (fun y11=>some y11) x9
def F70S:Tr.Spec:= {args:=(.cons (.pd Y31) (.cons (.pd Y3) .nil)),res:=(.cons (.pd Y36) .nil),fns:=[],α:=El Y36,f:=fun x=>F70 x.1 x.2.1,unp:=fun z=>(((),(),()),(z,())) }
theorem F70_ok:ZaS Tryz.prog 55 F70S:=Zad (rws:=[]) (zxs:=[]) (nt:=79) (m:=[(79,[F64S]),(80,[F65S]),(81,[F57S])]) (fn:=Tryz.f55) (hint:=(hS (hS (hS (.seq (.seq (.reg [(25,Y4)]) .leaf) (hS (.seq (.seq (.reg [(40,Y4)]) .leaf) (hS (hS (.seq (hS (.lp ⟨[(7,(.pd Y3))],[],[1,2,5],[],[],[]⟩ [((.exit 0),⟨[],[],[],[],[],[]⟩),(.ret,⟨[(4,(.pd Y36))],[],[],[],[],[]⟩)] (hS (.seq (hS (.seq (.reg [(78,Y4)]) .leaf)) .leaf)))) .leaf)))))))))) (pack:=fun y=>y.2.1) Za1 tab_ok ⟨⟨F64_ok,trivial⟩,⟨F65_ok,trivial⟩,⟨F57_ok,trivial⟩,trivial⟩ fun x z h=> .trans (by kernel_rfl) h
def F66: (El Y31)->(El Y3)->(El Y3)->(El Y3)->Option (El Y4):=fun a0 a1 a2 a3=>
 Va
 (run
 (fun s0=>
 bif decide (s0.2<=a1) then
 Va
 (run
 (fun s1=>
 bif decide (s1.2<a1) then
 Va
 (Va (idx a0.2.2.2.1 s1.2) fun x2=>
 bif x2.2.2.2.2.1 then Va (idx a0.2.2.2.1 s1.2) fun x3=>some (decide (x3.1=s0.1)) else some false)
 fun x4=>
 bif x4 then Va (idx a0.2.2.2.1 s1.2) fun x5=>some (.inl (x5.2.2.1,Vc .i64 (s1.2+(1:Int))))
 else some (.inl (s1.1,Vc .i64 (s1.2+(1:Int))))
 else some (.inr s1.1))
 ((-1:Int),(0:Int)))
 fun x6=>bif decide (x6=a3) then some (.inr (.inr true)) else some (.inl (x6,Vc .i64 (s0.2+(1:Int))))
 else some (.inr (.inl ())))
 (a2,(0:Int)))
 fun x7=>Vf (fun _=>some false) (fun y9=>some y9) x7
def F66S:Tr.Spec:= {args:=(.cons (.pd Y31) (.cons (.pd Y3) (.cons (.pd Y3) (.cons (.pd Y3) .nil)))),res:=(.cons (.pd Y4) .nil),fns:=[],α:=El Y4,f:=fun x=>F66 x.1 x.2.1 x.2.2.1 x.2.2.2.1,unp:=fun z=>(((),(),(),(),()),(z,())) }
theorem F66_ok:ZaS Tryz.prog 82 F66S:=Zad (rws:=[]) (zxs:=[]) (nt:=48) (m:=[]) (fn:=Tryz.f82) (hint:=(hS (.seq (hS (.lp ⟨[(2,(.pd Y3)),(9,(.pd Y3))],[],[1,3,4],[],[],[]⟩ [((.exit 0),⟨[],[],[],[],[],[]⟩),(.ret,⟨[(8,(.pd Y4))],[],[],[],[],[]⟩)] (hS (.seq (hS (.seq (hS (.lp ⟨[(10,(.pd Y3)),(11,(.pd Y3))],[],[1,2,3,4,9],[],[],[]⟩ [((.exit 2),⟨[(10,(.pd Y3))],[],[1,3,4,9],[],[],[]⟩)] (hS (.seq (.seq (.reg [(37,Y4)]) .leaf) .leaf)))) .leaf)) .leaf)))) .leaf))) (pack:=fun y=>y.2.1) Za1 tab_ok trivial fun x z h=> .trans (by kernel_rfl) h
def F67: (El Y31)->(El Y3)->Option (El Y36):=fun a0 a1=>
 Va (idx a0.2.2.2.1 a1) fun x0=>
 Va
 (Va (F65 x0.1 (0:Int) (Vc .i64 ((↑(Vb a0.2.2.1):Int) - (1:Int)))) fun x1=>
 bif !x1 then some true
 else
 Va (F65 x0.2.2.1 (0:Int) (Vc .i64 ((↑(Vb a0.2.2.1):Int) - (1:Int)))) fun x2=>
 bif !x2 then some true else some (decide (x0.1=x0.2.2.1)))
 fun x3=>
 bif x3 then some (9:Int)
 else
 Va (idx a0.2.2.1 x0.1) fun x4=>
 Va (idx a0.2.2.1 x0.2.2.1) fun x5=>
 Va
 (Va (F65 x0.2.1 (0:Int) (Vc .i64 ((↑(Vb x4.2.2.2.2.2.2.2.1):Int) - (1:Int)))) fun x6=>
 bif !x6 then some true
 else
 Va (F65 x0.2.2.2.1 (0:Int) (Vc .i64 ((↑(Vb x5.2.2.2.2.2.2.2.1):Int) - (1:Int)))) fun x7=>
 some !x7)
 fun x8=>
 bif x8 then some (9:Int)
 else
 Va (idx x4.2.2.2.2.2.2.2.1 x0.2.1) fun x9=>
 Va (idx x5.2.2.2.2.2.2.2.1 x0.2.2.2.1) fun x10=>
 bif !decide (x9.1=x10.1) then some (13:Int)
 else
 Va
 (bif x0.2.2.2.2.1 then
 bif !decide (x0.2.1=Vc .i64 ((↑(Vb x4.2.2.2.2.2.2.2.1):Int) - (1:Int))) then some true
 else some !decide (x0.2.2.2.1=(0:Int))
 else some false)
 fun x11=>
 bif x11 then some (19:Int)
 else
 Va
 (run
 (fun s12=>
 bif decide (s12<a1) then
 Va (idx a0.2.2.2.1 s12) fun x13=>
 Va
 (bif x0.2.2.2.2.1 then
 bif x13.2.2.2.2.1 then
 bif decide (x13.1=x0.1) then some true else some (decide (x13.2.2.1=x0.2.2.1))
 else some false
 else some false)
 fun x14=>bif x14 then some (.inr (.inr (19:Int))) else some (.inl (Vc .i64 (s12+(1:Int))))
 else some (.inr (.inl ())))
 (0:Int))
 fun x15=>
 Vf
 (fun _=>
 Va (bif x0.2.2.2.2.1 then Va (F66 a0 a1 x0.2.2.1 x0.1) fun x17=>some x17 else some false) fun x18=>
 bif x18 then some (19:Int)
 else
 Va
 (run
 (fun s19=>
 bif decide (s19<a1) then
 Va (idx a0.2.2.2.1 s19) fun x20=>
 Va
 (bif decide (x20.1=x0.1) then
 bif decide (x20.2.1=x0.2.1) then
 bif decide (x20.2.2.1=x0.2.2.1) then some (decide (x20.2.2.2.1=x0.2.2.2.1))
 else some false
 else some false
 else some false)
 fun x21=>bif x21 then some (.inr (.inr (6:Int))) else some (.inl (Vc .i64 (s19+(1:Int))))
 else some (.inr (.inl ())))
 (0:Int))
 fun x22=>Vf (fun _=>some (0:Int)) (fun y24=>some y24) x22)
 (fun y25=>some y25) x15
def F67S:Tr.Spec:= {args:=(.cons (.pd Y31) (.cons (.pd Y3) .nil)),res:=(.cons (.pd Y36) .nil),fns:=[],α:=El Y36,f:=fun x=>F67 x.1 x.2.1,unp:=fun z=>(((),(),()),(z,())) }
theorem F67_ok:ZaS Tryz.prog 56 F67S:=Zad (rws:=[]) (zxs:=[]) (nt:=177) (m:=[(80,[F65S]),(82,[F66S])]) (fn:=Tryz.f56) (hint:=(hS (hS (.seq (.seq (.reg [(41,Y4)]) .leaf) (hS (.seq (.seq (.reg [(71,Y4)]) .leaf) (hS (.seq (.seq (.reg [(99,Y4)]) .leaf) (.seq (hS (.lp ⟨[(8,(.pd Y3))],[],[1,2,5],[],[],[]⟩ [((.exit 0),⟨[],[],[1,2,5],[],[],[]⟩),(.ret,⟨[(4,(.pd Y36))],[],[],[],[],[]⟩)] (hS (.seq (hS (.seq (.reg [(129,Y4)]) .leaf)) .leaf)))) (.seq (.seq (.reg [(140,Y4)]) .leaf) (.seq (hS (.lp ⟨[(10,(.pd Y3))],[],[1,2,5],[],[],[]⟩ [((.exit 2),⟨[],[],[],[],[],[]⟩),(.ret,⟨[(4,(.pd Y36))],[],[],[],[],[]⟩)] (hS (.seq (hS (.seq (.reg [(176,Y4)]) .leaf)) .leaf)))) .leaf))))))))))) (pack:=fun y=>y.2.1) Za1 tab_ok ⟨⟨F65_ok,trivial⟩,⟨F66_ok,trivial⟩,trivial⟩ fun x z h=> .trans (by kernel_rfl) h
def F61: (El Y26)->(El Y3)->(El Y4)->Option (El Y38):=fun a0 a1 a2=>
 Va
 (run
 (fun s0=>
 bif decide (s0.2<a1) then
 Va
 (run
 (fun s1=>
 bif decide (s1.2.2<a1) then
 Va (Zam (decide (Vb s1.2.1+Vb [(1099511627776:Int)]<=Zan))) fun _=>
 some (.inl (s1.1,s1.2.1++[(1099511627776:Int)],Vc .i64 (s1.2.2+(1:Int))))
 else some (.inr (s1.1,s1.2.1)))
 (s0.1,[],(0:Int)))
 fun x3=>
 Va (Zam (decide (Vb x3.1+Vb [x3.2]<=Zan))) fun _=>
 some (.inl (x3.1++[x3.2],Vc .i64 (s0.2+(1:Int))))
 else some (.inr s0.1))
 ([],(0:Int)))
 fun x5=>
 Va
 (run
 (fun s6=>
 bif decide (s6.2< (↑(Vb a0):Int)) then
 Va (idx a0 s6.2) fun x7=>
 Va (bif x7.2.2.2.1 then some true else some !a2) fun x8=>
 bif x8 then
 Va (inb x7.1 (Vb s6.1)) fun x9=>
 Va s6.1[x9]? fun _=>
 Va (inb x7.1 (Vb s6.1)) fun x11=>
 Va s6.1[x11]? fun _=>
 Va (idx s6.1 (↑x11:Int)) fun x13=>
 Va (inb x7.2.1 (Vb x13)) fun x14=>
 Va (idx s6.1 (↑x11:Int)) fun x15=>
 Va x15[x14]? fun x16=>
 Va (idx s6.1 (↑x9:Int)) fun x17=>
 Va (inb x7.2.1 (Vb x17)) fun x18=>
 Va (idx s6.1 (↑x9:Int)) fun x19=>
 Va x19[x18]? fun _=>
 some
 (.inl (Vd s6.1 (Vh (↑x9:Int)) (Vd x19 x18 (Tr.imin x16 x7.2.2.1)),Vc .i64 (s6.2+(1:Int))))
 else some (.inl (s6.1,Vc .i64 (s6.2+(1:Int))))
 else some (.inr s6.1))
 (x5,(0:Int)))
 fun x21=>
 Va
 (run
 (fun s22=>
 bif decide (s22.2<a1) then
 Va
 (run
 (fun s23=>
 bif decide (s23.2<a1) then
 Va
 (run
 (fun s24=>
 bif decide (s24.2<a1) then
 Va (inb s23.2 (Vb s24.1)) fun x25=>
 Va s24.1[x25]? fun _=>
 Va (inb s23.2 (Vb s24.1)) fun x27=>
 Va s24.1[x27]? fun _=>
 Va (idx s24.1 (↑x27:Int)) fun x29=>
 Va (inb s24.2 (Vb x29)) fun x30=>
 Va (idx s24.1 (↑x27:Int)) fun x31=>
 Va x31[x30]? fun x32=>
 Va (inb s23.2 (Vb s24.1)) fun x33=>
 Va s24.1[x33]? fun _=>
 Va (idx s24.1 (↑x33:Int)) fun x35=>
 Va (inb s22.2 (Vb x35)) fun x36=>
 Va (idx s24.1 (↑x33:Int)) fun x37=>
 Va x37[x36]? fun x38=>
 Va (inb s22.2 (Vb s24.1)) fun x39=>
 Va s24.1[x39]? fun _=>
 Va (idx s24.1 (↑x39:Int)) fun x41=>
 Va (inb s24.2 (Vb x41)) fun x42=>
 Va (idx s24.1 (↑x39:Int)) fun x43=>
 Va x43[x42]? fun x44=>
 Va (idx s24.1 (↑x25:Int)) fun x45=>
 Va (inb s24.2 (Vb x45)) fun x46=>
 Va (idx s24.1 (↑x25:Int)) fun x47=>
 Va x47[x46]? fun _=>
 some
 (.inl
 (Vd s24.1 (Vh (↑x25:Int))
 (Vd x47 x46 (Tr.imin x32 (Vc .i64 (x38+x44)))),
 Vc .i64 (s24.2+(1:Int))))
 else some (.inr s24.1))
 (s23.1,(0:Int)))
 fun x49=>some (.inl (x49,Vc .i64 (s23.2+(1:Int))))
 else some (.inr s23.1))
 (s22.1,(0:Int)))
 fun x50=>some (.inl (x50,Vc .i64 (s22.2+(1:Int))))
 else some (.inr s22.1))
 (x21,(0:Int)))
 fun x51=>some x51
def F61S:Tr.Spec:= {args:=(.cons (.pd Y26) (.cons (.pd Y3) (.cons (.pd Y4) .nil))),res:=(.cons (.pd Y38) .nil),fns:=[],α:=El Y38,f:=fun x=>F61 x.1 x.2.1 x.2.2.1,unp:=fun z=>(((),(),(),()),(z,())) }
theorem F61_ok:ZaS Tryz.prog 110 F61S:=Zad (rws:=[38]) (zxs:=[]) (nt:=116) (m:=[]) (fn:=Tryz.f110) (hint:=(hS (hS (.seq (hS (.lp ⟨[(7,(.rows Y3 false)),(8,(.pd Y3))],[],[0,1,2],[],[],[]⟩ [((.exit 0),⟨[(7,(.rows Y3 false))],[],[0,1,2],[],[],[]⟩)] (hS (.seq (hS (.seq (hS (.lp ⟨[(7,(.rows Y3 false)),(9,(.own Y3 false)),(10,(.pd Y3))],[],[0,1,2,8],[],[],[]⟩ [((.exit 2),⟨[(7,(.rows Y3 false)),(9,(.own Y3 false))],[],[0,1,2,8],[],[],[]⟩)] .leaf)) .leaf)) .leaf)))) (.seq (hS (.lp ⟨[(7,(.rows Y3 false)),(11,(.pd Y3))],[],[0,1,2],[],[],[]⟩ [((.exit 4),⟨[(7,(.rows Y3 false))],[],[1],[],[],[]⟩)] (hS (.seq (hS (.seq (.reg [(50,Y4)]) .leaf)) .leaf)))) (.seq (hS (.lp ⟨[(7,(.rows Y3 false)),(13,(.pd Y3))],[],[1],[],[],[]⟩ [((.exit 6),⟨[(7,(.rows Y3 false))],[],[],[],[],[]⟩)] (hS (.seq (hS (.lp ⟨[(7,(.rows Y3 false)),(14,(.pd Y3))],[],[1,13],[],[],[]⟩ [((.exit 8),⟨[(7,(.rows Y3 false))],[],[1,13],[],[],[]⟩)] (hS (.seq (hS (.lp ⟨[(7,(.rows Y3 false)),(15,(.pd Y3))],[],[1,13,14],[],[],[]⟩ [((.exit 10),⟨[(7,(.rows Y3 false))],[],[1,13,14],[],[],[]⟩)] .leaf)) .leaf)))) .leaf)))) .leaf)))))) (pack:=fun y=>y.2.1) Za1 tab_ok trivial fun x z h=> .trans (by kernel_rfl) h
def F59: (El Y26)->(El Y3)->Option (El Y26):=fun a0 a1=>
 Va (F61 a0 a1 false) fun x0=>
 Va (F61 a0 a1 true) fun x1=>
 Va
 (run
 (fun s2=>
 bif decide (s2.2<a1) then
 Va
 (run
 (fun s3=>
 bif decide (s3.2<a1) then
 Va
 (bif decide (s2.2=s3.2) then some true
 else Va (idx x0 s2.2) fun x4=>Va (idx x4 s3.2) fun x5=>some (decide ((14400:Int)<x5)))
 fun x6=>
 bif x6 then some (.inl (s3.1,Vc .i64 (s3.2+(1:Int))))
 else
 Va (idx x0 s2.2) fun x7=>
 Va (idx x7 s3.2) fun x8=>
 Va (idx x1 s2.2) fun x9=>
 Va (idx x9 s3.2) fun x10=>
 Va (idx x0 s2.2) fun x11=>
 Va (idx x11 s3.2) fun x12=>
 Va (Zam (decide (Vb s3.1+Vb [(s2.2,s3.2,x8,decide (x10=x12),())]<=Zan))) fun _=>
 Va
 (Va (idx x1 s2.2) fun x14=>
 Va (idx x14 s3.2) fun x15=>
 Va (idx x0 s2.2) fun x16=>
 Va (idx x16 s3.2) fun x17=>
 bif decide (x17<x15) then
 Va (idx x1 s2.2) fun x18=>Va (idx x18 s3.2) fun x19=>some (decide (x19<=(14400:Int)))
 else some false)
 fun x20=>
 bif x20 then
 Va (idx x1 s2.2) fun x21=>
 Va (idx x21 s3.2) fun x22=>
 Va
 (Zam
 (decide
 (Vb (s3.1++[(s2.2,s3.2,x8,decide (x10=x12),())])+Vb [(s2.2,s3.2,x22,true,())]<=
 Zan)))
 fun _=>
 some
 (.inl
 (s3.1++[(s2.2,s3.2,x8,decide (x10=x12),())]++[(s2.2,s3.2,x22,true,())],
 Vc .i64 (s3.2+(1:Int))))
 else some (.inl (s3.1++[(s2.2,s3.2,x8,decide (x10=x12),())],Vc .i64 (s3.2+(1:Int))))
 else some (.inr s3.1))
 (s2.1,(0:Int)))
 fun x24=>some (.inl (x24,Vc .i64 (s2.2+(1:Int))))
 else some (.inr s2.1))
 ([],(0:Int)))
 fun x25=>some x25
def F59S:Tr.Spec:= {args:=(.cons (.pd Y26) (.cons (.pd Y3) .nil)),res:=(.cons (.pd Y26) .nil),fns:=[],α:=El Y26,f:=fun x=>F59 x.1 x.2.1,unp:=fun z=>(((),(),()),(z,())) }
theorem F59_ok:ZaS Tryz.prog 83 F59S:=Zad (rws:=[]) (zxs:=[]) (nt:=107) (m:=[(110,[F61S])]) (fn:=Tryz.f83) (hint:=(hS (hS (hS (.seq (hS (.lp ⟨[(7,(.own Y79 false)),(8,(.pd Y3))],[],[1,5,6],[],[],[]⟩ [((.exit 0),⟨[(7,(.own Y79 false))],[],[],[],[],[]⟩)] (hS (.seq (hS (.lp ⟨[(7,(.own Y79 false)),(9,(.pd Y3))],[],[1,5,6,8],[],[],[]⟩ [((.exit 2),⟨[(7,(.own Y79 false))],[],[1,5,6,8],[],[],[]⟩)] (hS (.seq (.seq (.seq (.reg [(39,Y4)]) .leaf) (hS (.seq (.reg [(92,Y4)]) .leaf))) .leaf)))) .leaf)))) .leaf))))) (pack:=fun y=>y.2.1) Za1 tab_ok ⟨⟨F61_ok,trivial⟩,trivial⟩ fun x z h=> .trans (by kernel_rfl) h
def F68: (El Y31)->Option (El Y3×El Y36):=fun a0=>
 Va
 (run
 (fun s0=>
 bif decide (s0< (↑(Vb a0.2.2.2.2.1):Int)) then
 Va (idx a0.2.2.2.2.1 s0) fun x1=>
 Va
 (Va (F65 x1.1 (0:Int) (Vc .i64 ((↑(Vb a0.1):Int) - (1:Int)))) fun x2=>
 bif !x2 then some true
 else
 Va (F65 x1.2.1 (0:Int) (Vc .i64 ((↑(Vb a0.1):Int) - (1:Int)))) fun x3=>
 bif !x3 then some true else some (decide (x1.1=x1.2.1)))
 fun x4=>
 bif x4 then some (.inr (.inr (s0,(9:Int))))
 else
 Va (F65 x1.2.2.1 (1:Int) (14400:Int)) fun x5=>
 bif !x5 then some (.inr (.inr (s0,(2:Int))))
 else
 Va
 (run
 (fun s6=>
 bif decide (s6<s0) then
 Va (idx a0.2.2.2.2.1 s6) fun x7=>
 Va
 (bif decide (x7.1=x1.1) then
 bif decide (x7.2.1=x1.2.1) then some (x7.2.2.2.1==x1.2.2.2.1) else some false
 else some false)
 fun x8=>bif x8 then some (.inr (.inr (s0,(6:Int)))) else some (.inl (Vc .i64 (s6+(1:Int))))
 else some (.inr (.inl ())))
 (0:Int))
 fun x9=>Vf (fun _=>some (.inl (Vc .i64 (s0+(1:Int))))) (fun y11=>some (.inr (.inr (y11.1,y11.2)))) x9
 else some (.inr (.inl ())))
 (0:Int))
 fun x12=>
 Vf
 (fun _=>
 Va (F59 a0.2.2.2.2.1 (↑(Vb a0.1):Int)) fun x14=>
 bif !decide ((↑(Vb x14):Int)=(↑(Vb a0.2.2.2.2.1):Int)) then some ((0:Int),(18:Int))
 else
 Va
 (run
 (fun s15=>
 bif decide (s15< (↑(Vb x14):Int)) then
 Va (idx x14 s15) fun x16=>
 Va (idx a0.2.2.2.2.1 s15) fun x17=>
 bif
 !(decide (x16.1=x17.1) &&
 (decide (x16.2.1=x17.2.1) && (decide (x16.2.2.1=x17.2.2.1) &&x16.2.2.2.1==x17.2.2.2.1))) then
 some (.inr (.inr ((0:Int),(18:Int))))
 else some (.inl (Vc .i64 (s15+(1:Int))))
 else some (.inr (.inl ())))
 (0:Int))
 fun x18=>Vf (fun _=>some ((0:Int),(0:Int))) (fun y20=>some (y20.1,y20.2)) x18)
 (fun y21=>some (y21.1,y21.2)) x12
def F68S:Tr.Spec:= {args:=(.cons (.pd Y31) .nil),res:=(.cons (.pd Y3) (.cons (.pd Y36) .nil)),fns:=[],α:=El Y3×El Y36,f:=fun x=>F68 x.1,unp:=fun z=>(((),()),(z.1,z.2,())) }
theorem F68_ok:ZaS Tryz.prog 57 F68S:=Zad (rws:=[]) (zxs:=[]) (nt:=111) (m:=[(80,[F65S]),(83,[F59S])]) (fn:=Tryz.f57) (hint:=(hS (.seq (hS (.lp ⟨[(4,(.pd Y3))],[],[1],[],[],[]⟩ [((.exit 0),⟨[],[],[1],[],[],[]⟩),(.ret,⟨[(2,(.pd Y3)),(3,(.pd Y36))],[],[],[],[],[]⟩)] (hS (.seq (hS (.seq (.seq (.reg [(46,Y4)]) .leaf) (hS (hS (.lp ⟨[(6,(.pd Y3))],[],[1,4,5],[],[],[]⟩ [((.exit 2),⟨[],[],[1,4],[],[],[]⟩),(.ret,⟨[(2,(.pd Y3)),(3,(.pd Y36))],[],[],[],[],[]⟩)] (hS (.seq (hS (.seq (.reg [(81,Y4)]) .leaf)) .leaf))))))) .leaf)))) (hS (hS (.seq (hS (.lp ⟨[(9,(.pd Y3))],[],[1,8],[],[],[]⟩ [((.exit 4),⟨[],[],[],[],[],[]⟩),(.ret,⟨[(2,(.pd Y3)),(3,(.pd Y36))],[],[],[],[],[]⟩)] .leaf)) .leaf)))))) (pack:=fun y=>(y.2.1,y.2.2.1)) Za1 tab_ok ⟨⟨F65_ok,trivial⟩,⟨F59_ok,trivial⟩,trivial⟩ fun x z h=> .trans (by kernel_rfl) h
def F60: (El Y29)->Option (El Y3×El Y36):=fun a0=>
 Va
 (Va (F65 a0.2.1 (0:Int) (1000000:Int)) fun x0=>
 bif !x0 then some true
 else
 Va (F65 a0.2.2.1 (0:Int) (86400:Int)) fun x1=>
 bif !x1 then some true else Va (F65 a0.2.2.2.1 (0:Int) (1000000:Int)) fun x2=>some !x2)
 fun x3=>
 bif x3 then some ((-1:Int),(2:Int))
 else
 bif decide ((16:Int)< (↑(Vb a0.1):Int)) then some ((0:Int),(5:Int))
 else
 Va
 (run
 (fun s4=>
 bif decide (s4< (↑(Vb a0.1):Int)) then
 Va (idx a0.1 s4) fun x5=>
 Va (F64 x5.1) fun x6=>
 bif !x6 then some (.inr (.inr (s4,(12:Int))))
 else
 Va
 (run
 (fun s7=>
 bif decide (s7<s4) then
 Va (idx a0.1 s7) fun x8=>
 bif decide (x8.1=x5.1) then some (.inr (.inr (s4,(6:Int)))) else some (.inl (Vc .i64 (s7+(1:Int))))
 else some (.inr (.inl ())))
 (0:Int))
 fun x9=>
 Vf
 (fun _=>
 Va
 (Va (F65 x5.2.1 (0:Int) (1000000:Int)) fun x11=>
 bif !x11 then some true
 else
 Va (F65 x5.2.2.1 (1:Int) (8:Int)) fun x12=>
 bif !x12 then some true
 else
 Va (F65 x5.2.2.2.1 (1:Int) (16:Int)) fun x13=>
 bif !x13 then some true
 else
 Va (F65 x5.2.2.2.2.1 (0:Int) (86400:Int)) fun x14=>
 bif !x14 then some true else Va (F65 x5.2.2.2.2.2.1 (1:Int) (255:Int)) fun x15=>some !x15)
 fun x16=>bif x16 then some (.inr (.inr (s4,(2:Int)))) else some (.inl (Vc .i64 (s4+(1:Int)))))
 (fun y17=>some (.inr (.inr (y17.1,y17.2)))) x9
 else some (.inr (.inl ())))
 (0:Int))
 fun x18=>Vf (fun _=>some ((0:Int),(0:Int))) (fun y20=>some (y20.1,y20.2)) x18
def F60S:Tr.Spec:= {args:=(.cons (.pd Y29) .nil),res:=(.cons (.pd Y3) (.cons (.pd Y36) .nil)),fns:=[],α:=El Y3×El Y36,f:=fun x=>F60 x.1,unp:=fun z=>(((),()),(z.1,z.2,())) }
theorem F60_ok:ZaS Tryz.prog 58 F60S:=Zad (rws:=[]) (zxs:=[]) (nt:=88) (m:=[(79,[F64S]),(80,[F65S])]) (fn:=Tryz.f58) (hint:=(hS (.seq (.seq (.reg [(22,Y4)]) .leaf) (hS (.seq (hS (.lp ⟨[(4,(.pd Y3))],[],[1],[],[],[]⟩ [((.exit 0),⟨[],[],[],[],[],[]⟩),(.ret,⟨[(2,(.pd Y3)),(3,(.pd Y36))],[],[],[],[],[]⟩)] (hS (.seq (hS (hS (.seq (hS (.lp ⟨[(6,(.pd Y3))],[],[1,4,5],[],[],[]⟩ [((.exit 2),⟨[],[],[1,4,5],[],[],[]⟩),(.ret,⟨[(2,(.pd Y3)),(3,(.pd Y36))],[],[],[],[],[]⟩)] .leaf)) (.seq (.reg [(86,Y4)]) .leaf)))) .leaf)))) .leaf))))) (pack:=fun y=>(y.2.1,y.2.2.1)) Za1 tab_ok ⟨⟨F64_ok,trivial⟩,⟨F65_ok,trivial⟩,trivial⟩ fun x z h=> .trans (by kernel_rfl) h
def F58: (El Y31)->Option (El Y3×El Y3×El Y36):=fun a0=>
 Va (F71 a0.1) fun x0=>
 bif !decide (x0.2=(0:Int)) then some ((0:Int),x0.1,x0.2)
 else
 Va (F69 a0.2.1) fun x1=>
 bif !decide (x1.2=(0:Int)) then some ((1:Int),x1.1,x1.2)
 else
 bif decide ((1024:Int)< (↑(Vb a0.2.2.1):Int)) then some ((2:Int),(0:Int),(5:Int))
 else
 Va
 (run
 (fun s2=>
 bif decide (s2< (↑(Vb a0.2.2.1):Int)) then
 Va (F70 a0 s2) fun x3=>
 bif !decide (x3=(0:Int)) then some (.inr (.inr ((2:Int),s2,x3))) else some (.inl (Vc .i64 (s2+(1:Int))))
 else some (.inr (.inl ())))
 (0:Int))
 fun x4=>
 Vf
 (fun _=>
 bif decide ((1024:Int)< (↑(Vb a0.2.2.2.1):Int)) then some ((3:Int),(0:Int),(5:Int))
 else
 Va
 (run
 (fun s6=>
 bif decide (s6< (↑(Vb a0.2.2.2.1):Int)) then
 Va (F67 a0 s6) fun x7=>
 bif !decide (x7=(0:Int)) then some (.inr (.inr ((3:Int),s6,x7)))
 else some (.inl (Vc .i64 (s6+(1:Int))))
 else some (.inr (.inl ())))
 (0:Int))
 fun x8=>
 Vf
 (fun _=>
 Va (F68 a0) fun x10=>
 bif !decide (x10.2=(0:Int)) then some ((4:Int),x10.1,x10.2)
 else
 Va (F60 a0.2.2.2.2.2.1) fun x11=>
 bif !decide (x11.2=(0:Int)) then some ((5:Int),x11.1,x11.2) else some ((0:Int),(0:Int),(0:Int)))
 (fun y12=>some (y12.1,y12.2.1,y12.2.2)) x8)
 (fun y13=>some (y13.1,y13.2.1,y13.2.2)) x4
def F58S:Tr.Spec:= {args:=(.cons (.pd Y31) .nil),res:=(.cons (.pd Y3) (.cons (.pd Y3) (.cons (.pd Y36) .nil))),fns:=[],α:=El Y3×El Y3×El Y36,f:=fun x=>F58 x.1,unp:=fun z=>(((),()),(z.1,z.2.1,z.2.2,())) }
theorem F58_ok:ZaS Tryz.prog 38 F58S:=Zad (rws:=[]) (zxs:=[]) (nt:=84) (m:=[(53,[F71S]),(54,[F69S]),(55,[F70S]),(56,[F67S]),(57,[F68S]),(58,[F60S])]) (fn:=Tryz.f38) (hint:=(hS (hS (hS (hS (hS (hS (.seq (hS (.lp ⟨[(7,(.pd Y3))],[],[1],[],[],[]⟩ [((.exit 0),⟨[],[],[1],[],[],[]⟩),(.ret,⟨[(2,(.pd Y3)),(3,(.pd Y3)),(4,(.pd Y36))],[],[],[],[],[]⟩)] .leaf)) (hS (.seq (hS (.lp ⟨[(8,(.pd Y3))],[],[1],[],[],[]⟩ [((.exit 2),⟨[],[],[1],[],[],[]⟩),(.ret,⟨[(2,(.pd Y3)),(3,(.pd Y3)),(4,(.pd Y36))],[],[],[],[],[]⟩)] .leaf)) .leaf)))))))))) (pack:=fun y=>(y.2.1,y.2.2.1,y.2.2.2.1)) Za1 tab_ok ⟨⟨F71_ok,trivial⟩,⟨F69_ok,trivial⟩,⟨F70_ok,trivial⟩,⟨F67_ok,trivial⟩,⟨F68_ok,trivial⟩,⟨F60_ok,trivial⟩,trivial⟩ fun x z h=> .trans (by kernel_rfl) h
def F63: (El Y31)->Option (El Y4):=fun a0=>Va (F58 a0) fun x0=>some (decide (x0.2.2=(0:Int)))
def F63S:Tr.Spec:= {args:=(.cons (.pd Y31) .nil),res:=(.cons (.pd Y4) .nil),fns:=[],α:=El Y4,f:=fun x=>F63 x.1,unp:=fun z=>(((),()),(z,())) }
theorem F63_ok:ZaS Tryz.prog 28 F63S:=Zad (rws:=[]) (zxs:=[]) (nt:=14) (m:=[(38,[F58S])]) (fn:=Tryz.f28) (hint:= .leaf) (pack:=fun y=>y.2.1) Za1 tab_ok ⟨⟨F58_ok,trivial⟩,trivial⟩ fun x z h=> .trans (by kernel_rfl) h
def F96: (El Y3)->(El Y3)->(El Y3)->Option (El Y4):=fun a0 a1 a2=>Va (bif decide (a1<=a0) then some (decide (a0<=a2)) else some false) fun x0=>some x0
def F96S:Tr.Spec:= {args:=(.cons (.pd Y3) (.cons (.pd Y3) (.cons (.pd Y3) .nil))),res:=(.cons (.pd Y4) .nil),fns:=[],α:=El Y4,f:=fun x=>F96 x.1 x.2.1 x.2.2.1,unp:=fun z=>(((),(),(),()),(z,())) }
theorem F96_ok:ZaS Tryz.prog 39 F96S:=Zad (rws:=[43]) (zxs:=[]) (nt:=15) (m:=[]) (fn:=Tryz.f39) (hint:=(hS (.seq (.reg [(6,Y4)]) .leaf))) (pack:=fun y=>y.2.1) Za1 tab_ok trivial fun x z h=> .trans (by kernel_rfl) h
def F88: (El Y3)->(El Y33)->Option (El Y4):=fun a0 a1=>
 Va
 (Va (F96 a1.1 (0:Int) (Vc .i64 (a0 - (1:Int)))) fun x0=>
 bif x0 then
 Va (F96 a1.2.1 (0:Int) (Vc .i64 (a0 - (1:Int)))) fun x1=>
 bif x1 then
 Va (F96 a1.2.2.1 (0:Int) (3155932800:Int)) fun x2=>
 bif x2 then
 Va (F96 a1.2.2.2.2.1 (0:Int) (8:Int)) fun x3=>
 bif x3 then
 Va (F96 a1.2.2.2.2.2.1 (0:Int) (86400:Int)) fun x4=>
 bif x4 then
 Va (F96 a1.2.2.2.2.2.2.2.2.1 (0:Int) (255:Int)) fun x5=>
 bif x5 then bif a1.2.2.2.2.2.2.2.2.2.1 then some !a1.2.2.2.1 else some !false else some false
 else some false
 else some false
 else some false
 else some false
 else some false)
 fun x6=>some x6
def F88S:Tr.Spec:= {args:=(.cons (.pd Y3) (.cons (.pd Y33) .nil)),res:=(.cons (.pd Y4) .nil),fns:=[],α:=El Y4,f:=fun x=>F88 x.1 x.2.1,unp:=fun z=>(((),(),()),(z,())) }
theorem F88_ok:ZaS Tryz.prog 29 F88S:=Zad (rws:=[43]) (zxs:=[]) (nt:=46) (m:=[(39,[F96S])]) (fn:=Tryz.f29) (hint:=(hS (.seq (.reg [(4,Y4)]) .leaf))) (pack:=fun y=>y.2.1) Za1 tab_ok ⟨⟨F96_ok,trivial⟩,trivial⟩ fun x z h=> .trans (by kernel_rfl) h
def F85: (El Y31)->(El Y33)->Option (El Y36):=fun a0 a1=>
 Va (F63 a0) fun x0=>
 bif !x0 then some (21:Int) else Va (F88 (↑(Vb a0.1):Int) a1) fun x1=>bif !x1 then some (22:Int) else some (0:Int)
def F85S:Tr.Spec:= {args:=(.cons (.pd Y31) (.cons (.pd Y33) .nil)),res:=(.cons (.pd Y36) .nil),fns:=[],α:=El Y36,f:=fun x=>F85 x.1 x.2.1,unp:=fun z=>(((),(),()),(z,())) }
theorem F85_ok:ZaS Tryz.prog 13 F85S:=Zad (rws:=[43]) (zxs:=[]) (nt:=14) (m:=[(28,[F63S]),(29,[F88S])]) (fn:=Tryz.f13) (hint:= .leaf) (pack:=fun y=>y.2.1) Za1 tab_ok ⟨⟨F63_ok,trivial⟩,⟨F88_ok,trivial⟩,trivial⟩ fun x z h=> .trans (by kernel_rfl) h
def F106: (El Y33)->(El Y43)->Option (El Y3):=fun a0 a1=>
 bif decide ((↑(Vb a1.1):Int)=(0:Int)) then some a0.2.2.1
 else Va (idx a1.1 (Vc .i64 ((↑(Vb a1.1):Int) - (1:Int)))) fun x0=>some x0.2.2.2.2.2.2.2.1
def F106S:Tr.Spec:= {args:=(.cons (.pd Y33) (.cons (.pd Y43) .nil)),res:=(.cons (.pd Y3) .nil),fns:=[],α:=El Y3,f:=fun x=>F106 x.1 x.2.1,unp:=fun z=>(((),(),()),(z,())) }
theorem F106_ok:ZaS Tryz.prog 21 F106S:=Zad (rws:=[]) (zxs:=[]) (nt:=20) (m:=[]) (fn:=Tryz.f21) (hint:= .leaf) (pack:=fun y=>y.2.1) Za1 tab_ok trivial fun x z h=> .trans (by kernel_rfl) h
def F109: (El Y43)->Option (El Y3):=fun a0=>
 Va
 (run
 (fun s0=>
 bif decide (s0.2< (↑(Vb a0.1):Int)) then
 Va
 (Va (idx a0.1 s0.2) fun x1=>bif x1.1 then Va (idx a0.1 s0.2) fun x2=>some !x2.2.2.2.2.2.2.2.2.1 else some false)
 fun x3=>
 bif x3 then some (.inl (Vc .i64 (s0.1+(1:Int)),Vc .i64 (s0.2+(1:Int))))
 else some (.inl (s0.1,Vc .i64 (s0.2+(1:Int))))
 else some (.inr s0.1))
 ((0:Int),(0:Int)))
 fun x4=>some x4
def F109S:Tr.Spec:= {args:=(.cons (.pd Y43) .nil),res:=(.cons (.pd Y3) .nil),fns:=[],α:=El Y3,f:=fun x=>F109 x.1,unp:=fun z=>(((),()),(z,())) }
theorem F109_ok:ZaS Tryz.prog 22 F109S:=Zad (rws:=[]) (zxs:=[]) (nt:=30) (m:=[]) (fn:=Tryz.f22) (hint:=(hS (hS (.seq (hS (.lp ⟨[(3,(.pd Y3)),(4,(.pd Y3))],[],[1],[],[],[]⟩ [((.exit 0),⟨[(3,(.pd Y3))],[],[],[],[],[]⟩)] (hS (.seq (.seq (.reg [(26,Y4)]) .leaf) .leaf)))) .leaf)))) (pack:=fun y=>y.2.1) Za1 tab_ok trivial fun x z h=> .trans (by kernel_rfl) h
def F62: (El Y31)->Option (El Y4):=fun a0=>
 Va
 (bif decide ((5:Int)< (↑(Vb a0.1):Int)) then some true
 else
 bif decide ((7:Int)< (↑(Vb a0.2.2.1):Int)) then some true
 else
 bif decide ((30:Int)< (↑(Vb a0.2.2.2.1):Int)) then some true
 else some (decide ((60:Int)< (↑(Vb a0.2.2.2.2.1):Int))))
 fun x0=>
 bif x0 then some false
 else
 Va
 (run
 (fun s1=>
 bif decide (s1< (↑(Vb a0.2.2.1):Int)) then
 Va (idx a0.2.2.1 s1) fun x2=>
 bif decide ((6:Int)< (↑(Vb x2.2.2.2.2.2.2.2.1):Int)) then some (.inr (.inr false))
 else some (.inl (Vc .i64 (s1+(1:Int))))
 else some (.inr (.inl ())))
 (0:Int))
 fun x3=>Vf (fun _=>Va (F63 a0) fun x5=>some x5) (fun y6=>some y6) x3
def F62S:Tr.Spec:= {args:=(.cons (.pd Y31) .nil),res:=(.cons (.pd Y4) .nil),fns:=[],α:=El Y4,f:=fun x=>F62 x.1,unp:=fun z=>(((),()),(z,())) }
theorem F62_ok:ZaS Tryz.prog 32 F62S:=Zad (rws:=[]) (zxs:=[]) (nt:=43) (m:=[(28,[F63S])]) (fn:=Tryz.f32) (hint:=(hS (.seq (.seq (.reg [(25,Y4)]) .leaf) (.seq (hS (.lp ⟨[(3,(.pd Y3))],[],[1],[],[],[]⟩ [((.exit 0),⟨[],[],[1],[],[],[]⟩),(.ret,⟨[(2,(.pd Y4))],[],[],[],[],[]⟩)] .leaf)) .leaf)))) (pack:=fun y=>y.2.1) Za1 tab_ok ⟨⟨F63_ok,trivial⟩,trivial⟩ fun x z h=> .trans (by kernel_rfl) h
def F31: (El Y31)->(El Y33)->Option (El Y4):=fun a0 a1=>
 Va
 (Va (F62 a0) fun x0=>
 bif x0 then
 Va (F88 (↑(Vb a0.1):Int) a1) fun x1=>
 bif x1 then bif !a1.2.2.2.1 then some (decide (a1.2.2.2.2.1<=(3:Int))) else some false else some false
 else some false)
 fun x2=>some x2
def F31S:Tr.Spec:= {args:=(.cons (.pd Y31) (.cons (.pd Y33) .nil)),res:=(.cons (.pd Y4) .nil),fns:=[],α:=El Y4,f:=fun x=>F31 x.1 x.2.1,unp:=fun z=>(((),(),()),(z,())) }
theorem F31_ok:ZaS Tryz.prog 17 F31S:=Zad (rws:=[]) (zxs:=[]) (nt:=24) (m:=[(29,[F88S]),(32,[F62S])]) (fn:=Tryz.f17) (hint:=(hS (.seq (.reg [(4,Y4)]) .leaf))) (pack:=fun y=>y.2.1) Za1 tab_ok ⟨⟨F88_ok,trivial⟩,⟨F62_ok,trivial⟩,trivial⟩ fun x z h=> .trans (by kernel_rfl) h
def F98: (El Y31)->(El Y66)->(El Y66)->(El Y4)->Option (El Y4):=fun a0 a1 a2 a3=>
 Va
 (run
 (fun s0=>
 bif decide (s0< (↑(Vb a0.2.2.2.1):Int)) then
 Va (idx a0.2.2.2.1 s0) fun x1=>
 Va
 (bif decide (x1.1=a1.2.1) then
 bif decide (x1.2.1=a1.2.2.2.1) then
 bif decide (x1.2.2.1=a2.2.1) then
 bif decide (x1.2.2.2.1=a2.2.2.1) then some (x1.2.2.2.2.1==a3) else some false
 else some false
 else some false
 else some false)
 fun x2=>bif x2 then some (.inr (.inr true)) else some (.inl (Vc .i64 (s0+(1:Int))))
 else some (.inr (.inl ())))
 (0:Int))
 fun x3=>Vf (fun _=>some false) (fun y5=>some y5) x3
def F98S:Tr.Spec:= {args:=(.cons (.pd Y31) (.cons (.pd Y66) (.cons (.pd Y66) (.cons (.pd Y4) .nil)))),res:=(.cons (.pd Y4) .nil),fns:=[],α:=El Y4,f:=fun x=>F98 x.1 x.2.1 x.2.2.1 x.2.2.2.1,unp:=fun z=>(((),(),(),(),()),(z,())) }
theorem F98_ok:ZaS Tryz.prog 103 F98S:=Zad (rws:=[43]) (zxs:=[]) (nt:=55) (m:=[]) (fn:=Tryz.f103) (hint:=(hS (.seq (hS (.lp ⟨[(9,(.pd Y3))],[],[3,4,5,6],[],[],[]⟩ [((.exit 0),⟨[],[],[],[],[],[]⟩),(.ret,⟨[(8,(.pd Y4))],[],[],[],[],[]⟩)] (hS (.seq (hS (.seq (.reg [(54,Y4)]) .leaf)) .leaf)))) .leaf))) (pack:=fun y=>y.2.1) Za1 tab_ok trivial fun x z h=> .trans (by kernel_rfl) h
def F94: (El Y31)->(El Y66)->(El Y66)->Option (El Y36):=fun a0 a1 a2=>
 bif !decide (a1.2.2.2.2.2.1=a2.2.2.2.2.1) then some (24:Int)
 else
 Va (bif !a1.1 then some !a2.1 else some false) fun x0=>
 bif x0 then some (32:Int)
 else
 bif a2.2.2.2.2.2.2.2.2.1 then
 Va (bif !a1.1 then some true else Va (F98 a0 a1 a2 true) fun x1=>some !x1) fun x2=>
 bif x2 then some (19:Int) else bif decide (a2.2.2.2.2.2.2.1<a1.2.2.2.2.2.2.2.1) then some (10:Int) else some (0:Int)
 else
 bif !a2.1 then bif !decide (a2.2.2.2.2.2.2.1=a1.2.2.2.2.2.2.2.1) then some (10:Int) else some (0:Int)
 else
 bif !a1.1 then bif decide (a2.2.2.2.2.2.2.1<a1.2.2.2.2.2.2.2.1) then some (28:Int) else some (0:Int)
 else
 Va
 (Va (idx a0.1 a1.2.2.2.2.2.1) fun x3=>
 bif decide (Vc .i64 (a1.2.2.2.2.2.2.2.1+x3.2.2.2.1)<=a2.2.2.2.2.2.2.1) then some true
 else
 Va (F98 a0 a1 a2 false) fun x4=>
 bif x4 then some (decide (a1.2.2.2.2.2.2.2.1<=a2.2.2.2.2.2.2.1)) else some false)
 fun x5=>bif x5 then some (0:Int) else some (28:Int)
def F94S:Tr.Spec:= {args:=(.cons (.pd Y31) (.cons (.pd Y66) (.cons (.pd Y66) .nil))),res:=(.cons (.pd Y36) .nil),fns:=[],α:=El Y36,f:=fun x=>F94 x.1 x.2.1 x.2.2.1,unp:=fun z=>(((),(),(),()),(z,())) }
theorem F94_ok:ZaS Tryz.prog 74 F94S:=Zad (rws:=[43]) (zxs:=[]) (nt:=79) (m:=[(103,[F98S])]) (fn:=Tryz.f74) (hint:=(hS (hS (.seq (.seq (.reg [(19,Y4)]) .leaf) (.seq (hS (.cnd none (.seq (.seq (.reg [(31,Y4)]) .leaf) .leaf) .leaf)) (hS (hS (.seq (.seq (.reg [(78,Y4)]) .leaf) .leaf)))))))) (pack:=fun y=>y.2.1) Za1 tab_ok ⟨⟨F98_ok,trivial⟩,trivial⟩ fun x z h=> .trans (by kernel_rfl) h
def F75: (El Y31)->(El Y66)->Option (El Y4):=fun a0 a1=>
 Va (bif decide (a1.2.1< (0:Int)) then some true else some (decide ((↑(Vb a0.2.2.1):Int)<=a1.2.1))) fun x0=>
 bif x0 then some false
 else
 Va
 (bif decide ((0:Int)<=a1.2.2.1) then
 bif decide (a1.2.2.1<a1.2.2.2.1) then
 Va (idx a0.2.2.1 a1.2.1) fun x1=>some (decide (a1.2.2.2.1< (↑(Vb x1.2.2.2.2.2.2.2.1):Int)))
 else some false
 else some false)
 fun x2=>some x2
def F75S:Tr.Spec:= {args:=(.cons (.pd Y31) (.cons (.pd Y66) .nil)),res:=(.cons (.pd Y4) .nil),fns:=[],α:=El Y4,f:=fun x=>F75 x.1 x.2.1,unp:=fun z=>(((),(),()),(z,())) }
theorem F75_ok:ZaS Tryz.prog 104 F75S:=Zad (rws:=[]) (zxs:=[]) (nt:=39) (m:=[]) (fn:=Tryz.f104) (hint:=(hS (.seq (.seq (.reg [(15,Y4)]) .leaf) (.seq (.reg [(4,Y4)]) .leaf)))) (pack:=fun y=>y.2.1) Za1 tab_ok trivial fun x z h=> .trans (by kernel_rfl) h
def F87: (El Y31)->(El Y33)->(El Y3)->Option (El Y4):=fun a0 a1 a2=>Va (bif !a1.2.2.2.2.2.2.1 then some true else Va (idx a0.1 a2) fun x0=>some x0.2.2.1) fun x1=>some x1
def F87S:Tr.Spec:= {args:=(.cons (.pd Y31) (.cons (.pd Y33) (.cons (.pd Y3) .nil))),res:=(.cons (.pd Y4) .nil),fns:=[],α:=El Y4,f:=fun x=>F87 x.1 x.2.1 x.2.2.1,unp:=fun z=>(((),(),(),()),(z,())) }
theorem F87_ok:ZaS Tryz.prog 77 F87S:=Zad (rws:=[43]) (zxs:=[]) (nt:=18) (m:=[]) (fn:=Tryz.f77) (hint:=(hS (.seq (.reg [(6,Y4)]) .leaf))) (pack:=fun y=>y.2.1) Za1 tab_ok trivial fun x z h=> .trans (by kernel_rfl) h
def F99: (El Y31)->(El Y33)->(El Y66)->Option (El Y36):=fun a0 a1 a2=>
 Va (idx a0.2.2.1 a2.2.1) fun x0=>
 Va (idx x0.2.2.2.2.2.2.2.1 a2.2.2.1) fun x1=>
 Va (idx x0.2.2.2.2.2.2.2.1 a2.2.2.2.1) fun x2=>
 Va (idx a0.2.1 x0.2.2.2.2.1) fun x3=>
 Va (bif !decide (x1.1=a2.2.2.2.2.1) then some true else some !decide (x2.1=a2.2.2.2.2.2.1)) fun x4=>
 bif x4 then some (24:Int)
 else
 Va
 (bif !decide (x1.2.2.1=a2.2.2.2.2.2.2.1) then some true
 else some !decide (x2.2.1=a2.2.2.2.2.2.2.2.1))
 fun x5=>
 bif x5 then some (10:Int)
 else
 bif x0.2.2.2.2.2.2.1 then some (27:Int)
 else
 Va (bif a1.2.2.2.2.2.2.1 then some !x0.2.2.2.2.2.1 else some false) fun x6=>
 bif x6 then some (29:Int)
 else
 Va (bif a1.2.2.2.2.2.2.2.1 then some !x3.2.2.1 else some false) fun x7=>
 bif x7 then some (30:Int)
 else
 Va
 (bif !decide (a1.2.2.2.2.2.2.2.2.1=(0:Int)) then
 Va (Zqt .i64 a1.2.2.2.2.2.2.2.2.1 x3.2.1) fun x8=>
 some (decide (ZnO .i64 x8 (1:Int)=(0:Int)))
 else some false)
 fun x9=>
 bif x9 then some (31:Int)
 else
 Va (bif !a2.2.2.2.2.2.2.2.2.1 then some !x1.2.2.2.1 else some false) fun x10=>
 bif x10 then some (25:Int)
 else
 Va
 (bif !a2.2.2.2.2.2.2.2.2.1 then Va (F87 a0 a1 a2.2.2.2.2.1) fun x11=>some !x11 else some false)
 fun x12=>bif x12 then some (29:Int) else some (0:Int)
def F99S:Tr.Spec:= {args:=(.cons (.pd Y31) (.cons (.pd Y33) (.cons (.pd Y66) .nil))),res:=(.cons (.pd Y36) .nil),fns:=[],α:=El Y36,f:=fun x=>F99 x.1 x.2.1 x.2.2.1,unp:=fun z=>(((),(),(),()),(z,())) }
theorem F99_ok:ZaS Tryz.prog 105 F99S:=Zad (rws:=[43]) (zxs:=[]) (nt:=106) (m:=[(77,[F87S])]) (fn:=Tryz.f105) (hint:=(hS (hS (hS (hS (.seq (.seq (.reg [(46,Y4)]) .leaf) (.seq (.seq (.reg [(58,Y4)]) .leaf) (hS (.seq (.seq (.reg [(67,Y4)]) .leaf) (.seq (.seq (.reg [(74,Y4)]) .leaf) (.seq (.seq (.reg [(86,Y4)]) .leaf) (.seq (.seq (.reg [(94,Y4)]) .leaf) (.seq (.seq (.reg [(105,Y4)]) .leaf) .leaf))))))))))))) (pack:=fun y=>y.2.1) Za1 tab_ok ⟨⟨F87_ok,trivial⟩,trivial⟩ fun x z h=> .trans (by kernel_rfl) h
def F103: (El Y31)->(El Y33)->(El Y66)->Option (El Y36):=fun a0 a1 a2=>
 Va
 (run
 (fun s0=>
 bif decide (s0.2< (↑(Vb a0.2.2.2.2.1):Int)) then
 Va (idx a0.2.2.2.2.1 s0.2) fun x1=>
 Va
 (bif !decide (x1.1=a2.2.2.2.2.1) then some true
 else
 bif !decide (x1.2.1=a2.2.2.2.2.2.1) then some true
 else some !decide (x1.2.2.1=Vc .i64 (a2.2.2.2.2.2.2.2.1 - a2.2.2.2.2.2.2.1)))
 fun x2=>
 bif x2 then some (.inl (s0.1,Vc .i64 (s0.2+(1:Int))))
 else
 Va (bif x1.2.2.2.1 then some true else some !a1.2.2.2.2.2.2.1) fun x3=>
 bif x3 then some (.inr (.inr (0:Int))) else some (.inl ((29:Int),Vc .i64 (s0.2+(1:Int))))
 else some (.inr (.inl s0.1)))
 ((18:Int),(0:Int)))
 fun x4=>Vf (fun y5=>some y5) (fun y6=>some y6) x4
def F103S:Tr.Spec:= {args:=(.cons (.pd Y31) (.cons (.pd Y33) (.cons (.pd Y66) .nil))),res:=(.cons (.pd Y36) .nil),fns:=[],α:=El Y36,f:=fun x=>F103 x.1 x.2.1 x.2.2.1,unp:=fun z=>(((),(),(),()),(z,())) }
theorem F103_ok:ZaS Tryz.prog 106 F103S:=Zad (rws:=[43]) (zxs:=[]) (nt:=52) (m:=[]) (fn:=Tryz.f106) (hint:=(hS (hS (.seq (hS (.lp ⟨[(7,(.pd Y36)),(8,(.pd Y3))],[],[3,4,5],[],[],[]⟩ [((.exit 0),⟨[(7,(.pd Y36))],[],[],[],[],[]⟩),(.ret,⟨[(6,(.pd Y36))],[],[],[],[],[]⟩)] (hS (.seq (hS (.seq (.seq (.reg [(43,Y4)]) .leaf) (.seq (.seq (.reg [(50,Y4)]) .leaf) .leaf))) .leaf)))) .leaf)))) (pack:=fun y=>y.2.1) Za1 tab_ok trivial fun x z h=> .trans (by kernel_rfl) h
def F97: (El Y31)->(El Y33)->(El Y66)->Option (El Y36):=fun a0 a1 a2=>
 Va
 (Va (F96 a2.2.2.2.2.1 (0:Int) (Vc .i64 ((↑(Vb a0.1):Int) - (1:Int)))) fun x0=>
 bif !x0 then some true
 else Va (F96 a2.2.2.2.2.2.1 (0:Int) (Vc .i64 ((↑(Vb a0.1):Int) - (1:Int)))) fun x1=>some !x1)
 fun x2=>
 bif x2 then some (9:Int)
 else
 Va
 (bif a2.1 then
 Va (F75 a0 a2) fun x3=>
 bif !x3 then some true
 else
 bif !a2.1 then
 bif !decide (a2.2.1=(0:Int)) then some true
 else
 bif !decide (a2.2.2.1=(0:Int)) then some true
 else bif !decide (a2.2.2.2.1=(0:Int)) then some true else some a2.2.2.2.2.2.2.2.2.1
 else some false
 else
 bif !a2.1 then
 bif !decide (a2.2.1=(0:Int)) then some true
 else
 bif !decide (a2.2.2.1=(0:Int)) then some true
 else bif !decide (a2.2.2.2.1=(0:Int)) then some true else some a2.2.2.2.2.2.2.2.2.1
 else some false)
 fun x4=>
 bif x4 then some (9:Int)
 else
 Va
 (Va (F96 a2.2.2.2.2.2.2.1 (0:Int) (3155932800:Int)) fun x5=>
 bif !x5 then some true else Va (F96 a2.2.2.2.2.2.2.2.1 (0:Int) (3155932800:Int)) fun x6=>some !x6)
 fun x7=>
 bif x7 then some (10:Int) else bif a2.1 then Va (F99 a0 a1 a2) fun x8=>some x8 else Va (F103 a0 a1 a2) fun x9=>some x9
def F97S:Tr.Spec:= {args:=(.cons (.pd Y31) (.cons (.pd Y33) (.cons (.pd Y66) .nil))),res:=(.cons (.pd Y36) .nil),fns:=[],α:=El Y36,f:=fun x=>F97 x.1 x.2.1 x.2.2.1,unp:=fun z=>(((),(),(),()),(z,())) }
theorem F97_ok:ZaS Tryz.prog 75 F97S:=Zad (rws:=[43]) (zxs:=[]) (nt:=77) (m:=[(39,[F96S]),(104,[F75S]),(105,[F99S]),(106,[F103S])]) (fn:=Tryz.f75) (hint:=(hS (.seq (.seq (.reg [(24,Y4)]) .leaf) (.seq (.seq (.reg [(56,Y4)]) .leaf) (.seq (.seq (.reg [(66,Y4)]) .leaf) .leaf))))) (pack:=fun y=>y.2.1) Za1 tab_ok ⟨⟨F96_ok,trivial⟩,⟨F75_ok,trivial⟩,⟨F99_ok,trivial⟩,⟨F103_ok,trivial⟩,trivial⟩ fun x z h=> .trans (by kernel_rfl) h
def F93: (El Y31)->(El Y33)->(El Y43)->Option (El Y36):=fun a0 a1 a2=>
 Va (idx a2.1 (0:Int)) fun x0=>
 bif !decide (x0.2.2.2.2.1=a1.1) then some (24:Int)
 else
 bif x0.2.2.2.2.2.2.2.2.1 then some (19:Int)
 else
 Va
 (bif !x0.1 then
 bif decide ((1:Int)< (↑(Vb a2.1):Int)) then
 Va (idx a2.1 (1:Int)) fun x1=>
 bif x1.1 then Va (idx a2.1 (1:Int)) fun x2=>some !decide (x2.2.2.2.2.2.2.1=x0.2.2.2.2.2.2.2.1)
 else some false
 else some false
 else some false)
 fun x3=>
 bif x3 then some (10:Int)
 else
 Va
 (bif !x0.1 then
 bif decide ((↑(Vb a2.1):Int)=(1:Int)) then
 bif a1.2.2.2.1 then
 bif !decide (x0.2.2.2.2.2.2.2.1=a1.2.2.1) then some true
 else bif !a1.2.2.2.1 then some !decide (x0.2.2.2.2.2.2.1=a1.2.2.1) else some false
 else bif !a1.2.2.2.1 then some !decide (x0.2.2.2.2.2.2.1=a1.2.2.1) else some false
 else some false
 else some false)
 fun x4=>
 bif x4 then some (10:Int)
 else
 Va (bif !a1.2.2.2.1 then some (decide (x0.2.2.2.2.2.2.1<a1.2.2.1)) else some false) fun x5=>
 bif x5 then some (10:Int)
 else
 Va
 (bif a1.2.2.2.2.2.2.2.2.2.1 then
 bif x0.1 then
 Va (idx a0.1 a1.1) fun x6=>
 some (decide (x0.2.2.2.2.2.2.1<Vc .i64 (a1.2.2.1+x6.2.2.2.1)))
 else some false
 else some false)
 fun x7=>bif x7 then some (28:Int) else some (0:Int)
def F93S:Tr.Spec:= {args:=(.cons (.pd Y31) (.cons (.pd Y33) (.cons (.pd Y43) .nil))),res:=(.cons (.pd Y36) .nil),fns:=[],α:=El Y36,f:=fun x=>F93 x.1 x.2.1 x.2.2.1,unp:=fun z=>(((),(),(),()),(z,())) }
theorem F93_ok:ZaS Tryz.prog 76 F93S:=Zad (rws:=[43]) (zxs:=[]) (nt:=108) (m:=[]) (fn:=Tryz.f76) (hint:=(hS (hS (hS (hS (.seq (.seq (.reg [(44,Y4)]) .leaf) (.seq (.seq (.reg [(76,Y4)]) .leaf) (.seq (.seq (.reg [(86,Y4)]) .leaf) (.seq (.seq (.reg [(107,Y4)]) .leaf) .leaf))))))))) (pack:=fun y=>y.2.1) Za1 tab_ok trivial fun x z h=> .trans (by kernel_rfl) h
def F90: (El Y31)->(El Y33)->(El Y43)->(El Y3)->Option (El Y36):=fun a0 a1 a2 a3=>
 Va (idx a2.1 a3) fun x0=>
 Va (F97 a0 a1 x0) fun x1=>
 bif !decide (x1=(0:Int)) then some x1
 else
 Va
 (bif decide (a3=(0:Int)) then Va (F93 a0 a1 a2) fun x2=>some x2
 else Va (idx a2.1 (Vc .i64 (a3 - (1:Int)))) fun x3=>Va (F94 a0 x3 x0) fun x4=>some x4)
 fun x5=>
 bif !decide (x5=(0:Int)) then some x5
 else
 Va
 (bif x0.1 then
 bif decide (Vc .i64 (a3+(1:Int))=(↑(Vb a2.1):Int)) then some true
 else Va (idx a2.1 (Vc .i64 (a3+(1:Int)))) fun x6=>some !x6.2.2.2.2.2.2.2.2.1
 else some false)
 fun x7=>
 bif x7 then
 Va (idx a0.2.2.1 x0.2.1) fun x8=>
 Va (idx x8.2.2.2.2.2.2.2.1 x0.2.2.2.1) fun x9=>
 bif !x9.2.2.2.2.1 then some (26:Int)
 else Va (F87 a0 a1 x0.2.2.2.2.2.1) fun x10=>bif !x10 then some (29:Int) else some (0:Int)
 else some (0:Int)
def F90S:Tr.Spec:= {args:=(.cons (.pd Y31) (.cons (.pd Y33) (.cons (.pd Y43) (.cons (.pd Y3) .nil)))),res:=(.cons (.pd Y36) .nil),fns:=[],α:=El Y36,f:=fun x=>F90 x.1 x.2.1 x.2.2.1 x.2.2.2.1,unp:=fun z=>(((),(),(),(),()),(z,())) }
theorem F90_ok:ZaS Tryz.prog 51 F90S:=Zad (rws:=[43]) (zxs:=[]) (nt:=80) (m:=[(74,[F94S]),(75,[F97S]),(76,[F93S]),(77,[F87S])]) (fn:=Tryz.f51) (hint:=(hS (hS (hS (hS (.seq (hS (.cnd (some (⟨[],[],[3,4,5,6,9],[],[],[]⟩,[(.normal,⟨[(10,(.pd Y36))],[],[3,4,5,6,9],[],[],[]⟩)])) .leaf .leaf)) (hS (.seq (.seq (.reg [(60,Y4)]) .leaf) .leaf)))))))) (pack:=fun y=>y.2.1) Za1 tab_ok ⟨⟨F94_ok,trivial⟩,⟨F97_ok,trivial⟩,⟨F93_ok,trivial⟩,⟨F87_ok,trivial⟩,trivial⟩ fun x z h=> .trans (by kernel_rfl) h
def F79: (El Y43)->Option (El Y3):=fun a0=>
 Va
 (run
 (fun s0=>
 bif decide (s0.2< (↑(Vb a0.1):Int)) then
 Va (idx a0.1 s0.2) fun x1=>
 Va
 (bif !x1.1 then
 bif decide ((0:Int)<=x1.2.2.2.2.2.2.1) then
 bif decide (x1.2.2.2.2.2.2.1<=x1.2.2.2.2.2.2.2.1) then
 some (decide (Vc .i64 (x1.2.2.2.2.2.2.2.1 - x1.2.2.2.2.2.2.1)<=(14400:Int)))
 else some false
 else some false
 else some false)
 fun x2=>
 bif x2 then
 some
 (.inl
 (Vc .i64 (Vc .i64 (s0.1+x1.2.2.2.2.2.2.2.1) - x1.2.2.2.2.2.2.1),
 Vc .i64 (s0.2+(1:Int))))
 else some (.inl (s0.1,Vc .i64 (s0.2+(1:Int))))
 else some (.inr s0.1))
 ((0:Int),(0:Int)))
 fun x3=>some x3
def F79S:Tr.Spec:= {args:=(.cons (.pd Y43) .nil),res:=(.cons (.pd Y3) .nil),fns:=[],α:=El Y3,f:=fun x=>F79 x.1,unp:=fun z=>(((),()),(z,())) }
theorem F79_ok:ZaS Tryz.prog 35 F79S:=Zad (rws:=[]) (zxs:=[]) (nt:=49) (m:=[]) (fn:=Tryz.f35) (hint:=(hS (hS (.seq (hS (.lp ⟨[(3,(.pd Y3)),(4,(.pd Y3))],[],[1],[],[],[]⟩ [((.exit 0),⟨[(3,(.pd Y3))],[],[],[],[],[]⟩)] (hS (.seq (hS (.seq (.reg [(40,Y4)]) .leaf)) .leaf)))) .leaf)))) (pack:=fun y=>y.2.1) Za1 tab_ok trivial fun x z h=> .trans (by kernel_rfl) h
def F82: (El Y31)->(El Y66)->Option (El Y3):=fun a0 a1=>
 Va (idx a0.2.2.1 a1.2.1) fun x0=>
 Va
 (run
 (fun s1=>
 bif decide (s1.2<=a1.2.2.2.1) then
 Va (idx x0.2.2.2.2.2.2.2.1 s1.2) fun x2=>
 Va (idx a0.1 x2.1) fun x3=>
 Va (ZvL .i64 (1:Int) x3.2.1) fun x4=>some (.inl (qor .i64 s1.1 x4,Vc .i64 (s1.2+(1:Int))))
 else some (.inr s1.1))
 ((0:Int),a1.2.2.1))
 fun x5=>some x5
def F82S:Tr.Spec:= {args:=(.cons (.pd Y31) (.cons (.pd Y66) .nil)),res:=(.cons (.pd Y3) .nil),fns:=[],α:=El Y3,f:=fun x=>F82 x.1 x.2.1,unp:=fun z=>(((),(),()),(z,())) }
theorem F82_ok:ZaS Tryz.prog 119 F82S:=Zad (rws:=[]) (zxs:=[]) (nt:=37) (m:=[]) (fn:=Tryz.f119) (hint:=(hS (hS (hS (.seq (hS (.lp ⟨[(5,(.pd Y3)),(7,(.pd Y3))],[],[2,3,6],[],[],[]⟩ [((.exit 0),⟨[(5,(.pd Y3))],[],[],[],[],[]⟩)] .leaf)) .leaf))))) (pack:=fun y=>y.2.1) Za1 tab_ok trivial fun x z h=> .trans (by kernel_rfl) h
def F77: (El Y31)->(El Y43)->Option (El ZrB×El Y36):=fun a0 a1=>
 Va (F63 a0) fun x0=>
 bif !x0 then some ([],(21:Int))
 else
 Va
 (run
 (fun s1=>
 bif decide (s1.2< (↑(Vb a1.1):Int)) then
 Va (idx a1.1 s1.2) fun x2=>
 Va (bif x2.1 then Va (F75 a0 x2) fun x3=>some !x3 else some false) fun x4=>
 bif x4 then some (.inr (.inr ([],(9:Int))))
 else
 Va
 (bif x2.2.2.2.2.2.2.2.2.1 then
 bif !x2.1 then some true
 else
 bif decide (s1.2=(0:Int)) then some true
 else Va (idx a1.1 (Vc .i64 (s1.2 - (1:Int)))) fun x5=>some !x5.1
 else some false)
 fun x6=>
 bif x6 then some (.inr (.inr ([],(19:Int))))
 else
 bif !x2.1 then some (.inl (s1.1,Vc .i64 (s1.2+(1:Int))))
 else
 Va (idx a0.2.2.1 x2.2.1) fun x7=>
 Va (idx a0.2.1 x7.2.2.2.2.1) fun x8=>
 Va (ZvL .i64 (1:Int) x8.2.1) fun x9=>
 bif x2.2.2.2.2.2.2.2.2.1 then
 Va (inb (Vc .i64 ((↑(Vb s1.1):Int) - (1:Int))) (Vb s1.1)) fun x10=>
 Va s1.1[x10]? fun x11=>
 Va
 (inb (Vc .i64 ((↑(Vb s1.1):Int) - (1:Int)))
 (Vb (Vd s1.1 x10 (x11.1,x2.2.2.2.2.2.2.2.1,x11.2.2))))
 fun x12=>
 Va (Vd s1.1 x10 (x11.1,x2.2.2.2.2.2.2.2.1,x11.2.2))[x12]? fun x13=>
 Va (F82 a0 x2) fun x14=>
 Va
 (inb (Vc .i64 ((↑(Vb s1.1):Int) - (1:Int)))
 (Vb (Vd s1.1 x10 (x11.1,x2.2.2.2.2.2.2.2.1,x11.2.2))))
 fun x15=>
 Va (Vd s1.1 x10 (x11.1,x2.2.2.2.2.2.2.2.1,x11.2.2))[x15]? fun x16=>
 Va
 (inb (Vc .i64 ((↑(Vb s1.1):Int) - (1:Int)))
 (Vb
 (Vd (Vd s1.1 x10 (x11.1,x2.2.2.2.2.2.2.2.1,x11.2.2)) x15
 (x16.1,x16.2.1,qor .i64 x13.2.2.1 x14,x16.2.2.2))))
 fun x17=>
 Va
 (Vd (Vd s1.1 x10 (x11.1,x2.2.2.2.2.2.2.2.1,x11.2.2)) x15
 (x16.1,x16.2.1,qor .i64 x13.2.2.1 x14,x16.2.2.2))[x17]?
 fun x18=>
 Va
 (inb (Vc .i64 ((↑(Vb s1.1):Int) - (1:Int)))
 (Vb
 (Vd (Vd s1.1 x10 (x11.1,x2.2.2.2.2.2.2.2.1,x11.2.2)) x15
 (x16.1,x16.2.1,qor .i64 x13.2.2.1 x14,x16.2.2.2))))
 fun x19=>
 Va
 (Vd (Vd s1.1 x10 (x11.1,x2.2.2.2.2.2.2.2.1,x11.2.2)) x15
 (x16.1,x16.2.1,qor .i64 x13.2.2.1 x14,x16.2.2.2))[x19]?
 fun x20=>
 some
 (.inl
 (Vd
 (Vd (Vd s1.1 x10 (x11.1,x2.2.2.2.2.2.2.2.1,x11.2.2)) x15
 (x16.1,x16.2.1,qor .i64 x13.2.2.1 x14,x16.2.2.2))
 x19 (x20.1,x20.2.1,x20.2.2.1,qor .i64 x18.2.2.2.1 x9,x20.2.2.2.2),
 Vc .i64 (s1.2+(1:Int))))
 else
 Va (F82 a0 x2) fun x21=>
 Va
 (Zam (decide (Vb s1.1+Vb [(x2.2.2.2.2.2.2.1,x2.2.2.2.2.2.2.2.1,x21,x9,())]<=Zan)))
 fun _=>
 some
 (.inl (s1.1++[(x2.2.2.2.2.2.2.1,x2.2.2.2.2.2.2.2.1,x21,x9,())],Vc .i64 (s1.2+(1:Int))))
 else some (.inr (.inl s1.1)))
 ([],(0:Int)))
 fun x23=>Vf (fun y24=>some (y24,(0:Int))) (fun y25=>some (y25.1,y25.2)) x23
def F77S:Tr.Spec:= {args:=(.cons (.pd Y31) (.cons (.pd Y43) .nil)),res:=(.cons (.pd ZrB) (.cons (.pd Y36) .nil)),fns:=[],α:=El ZrB×El Y36,f:=fun x=>F77 x.1 x.2.1,unp:=fun z=>(((),(),()),(z.1,z.2,())) }
theorem F77_ok:ZaS Tryz.prog 107 F77S:=Zad (rws:=[]) (zxs:=[]) (nt:=120) (m:=[(28,[F63S]),(104,[F75S]),(119,[F82S])]) (fn:=Tryz.f107) (hint:=(hS (hS (hS (.seq (hS (.lp ⟨[(6,(.own Zxz false)),(7,(.pd Y3))],[],[2,3],[],[],[]⟩ [((.exit 0),⟨[(6,(.own Zxz false))],[],[],[],[],[]⟩),(.ret,⟨[(4,(.pd ZrB)),(5,(.pd Y36))],[],[],[],[],[]⟩)] (hS (.seq (hS (.seq (.seq (.reg [(34,Y4)]) .leaf) (.seq (.seq (.reg [(55,Y4)]) .leaf) .leaf))) .leaf)))) .leaf))))) (pack:=fun y=>(y.2.1,y.2.2.1)) Za1 tab_ok ⟨⟨F63_ok,trivial⟩,⟨F75_ok,trivial⟩,⟨F82_ok,trivial⟩,trivial⟩ fun x z h=> .trans (by kernel_rfl) h
def F80: (El Y3)->Option (El Y3):=fun a0=>
 Va
 (run
 (fun s0=>
 bif decide (s0.2< (62:Int)) then
 Va (Zqt .i64 a0 s0.2) fun x1=>
 bif decide (ZnO .i64 x1 (1:Int)=(1:Int)) then
 some (.inl (Vc .i64 (s0.1+(1:Int)),Vc .i64 (s0.2+(1:Int))))
 else some (.inl (s0.1,Vc .i64 (s0.2+(1:Int))))
 else some (.inr s0.1))
 ((0:Int),(0:Int)))
 fun x2=>some x2
def F80S:Tr.Spec:= {args:=(.cons (.pd Y3) .nil),res:=(.cons (.pd Y3) .nil),fns:=[],α:=El Y3,f:=fun x=>F80 x.1,unp:=fun z=>(((),()),(z,())) }
theorem F80_ok:ZaS Tryz.prog 129 F80S:=Zad (rws:=[]) (zxs:=[]) (nt:=17) (m:=[]) (fn:=Tryz.f129) (hint:=(hS (hS (.seq (hS (.lp ⟨[(3,(.pd Y3)),(4,(.pd Y3))],[],[0],[],[],[]⟩ [((.exit 0),⟨[(3,(.pd Y3))],[],[],[],[],[]⟩)] .leaf)) .leaf)))) (pack:=fun y=>y.2.1) Za1 tab_ok trivial fun x z h=> .trans (by kernel_rfl) h
def F81: (El Y3)->(El Y3)->(El Y3)->Option (El Y4):=fun a0 a1 a2=>
 bif decide (a1<=a0) then some true
 else some (decide (Vc .u64 (Vc .u64 a1 - Vc .u64 a0)<=Vc .u64 a2))
def F81S:Tr.Spec:= {args:=(.cons (.pd Y3) (.cons (.pd Y3) (.cons (.pd Y3) .nil))),res:=(.cons (.pd Y4) .nil),fns:=[],α:=El Y4,f:=fun x=>F81 x.1 x.2.1 x.2.2.1,unp:=fun z=>(((),(),(),()),(z,())) }
theorem F81_ok:ZaS Tryz.prog 130 F81S:=Zad (rws:=[]) (zxs:=[]) (nt:=18) (m:=[]) (fn:=Tryz.f130) (hint:= .leaf) (pack:=fun y=>y.2.1) Za1 tab_ok trivial fun x z h=> .trans (by kernel_rfl) h
def F74: (El Zva)->(El ZrB)->(El Y3)->(El Y3)->Option (El Y4):=fun a0 a1 a2 a3=>
 Va
 (run
 (fun s0=>
 bif decide (s0.2.2<=a3) then
 Va (idx a1 s0.2.2) fun x1=>
 Va (idx a1 s0.2.2) fun x2=>
 some (.inl (qor .i64 s0.1 x1.2.2.1,qor .i64 s0.2.1 x2.2.2.2.1,Vc .i64 (s0.2.2+(1:Int))))
 else some (.inr (s0.1,s0.2.1)))
 ((0:Int),(0:Int),a2))
 fun x3=>
 Va
 (bif decide (Vc .i64 (Vc .i64 (a3 - a2)+(1:Int))<=a0.2.2.1) then
 Va (F80 x3.1) fun x4=>
 bif decide (x4<=a0.2.2.2.1) then
 Va (idx a1 a2) fun x5=>
 Va (idx a1 a3) fun x6=>
 Va (F81 x5.1 x6.1 a0.2.2.2.2.1) fun x7=>
 bif x7 then some (decide (Tr.qandNot .i64 x3.2 a0.2.2.2.2.2.1=(0:Int))) else some false
 else some false
 else some false)
 fun x8=>some x8
def F74S:Tr.Spec:= {args:=(.cons (.pd Zva) (.cons (.pd ZrB) (.cons (.pd Y3) (.cons (.pd Y3) .nil)))),res:=(.cons (.pd Y4) .nil),fns:=[],α:=El Y4,f:=fun x=>F74 x.1 x.2.1 x.2.2.1 x.2.2.2.1,unp:=fun z=>(((),(),(),(),()),(z,())) }
theorem F74_ok:ZaS Tryz.prog 120 F74S:=Zad (rws:=[]) (zxs:=[]) (nt:=68) (m:=[(129,[F80S]),(130,[F81S])]) (fn:=Tryz.f120) (hint:=(hS (hS (.seq (hS (.lp ⟨[(9,(.pd Y3)),(10,(.pd Y3)),(11,(.pd Y3))],[],[1,2,3,4],[],[],[]⟩ [((.exit 0),⟨[(9,(.pd Y3)),(10,(.pd Y3))],[],[1,2,3,4],[],[],[]⟩)] .leaf)) (.seq (.reg [(8,Y4)]) .leaf))))) (pack:=fun y=>y.2.1) Za1 tab_ok ⟨⟨F80_ok,trivial⟩,⟨F81_ok,trivial⟩,trivial⟩ fun x z h=> .trans (by kernel_rfl) h
def F78: (El Y29)->(El Zva)->(El ZrB)->(El Y3)->Option (El Y3):=fun a0 a1 a2 a3=>
 Va
 (bif decide ((0:Int)<a3) then
 Va (idx a2 (Vc .i64 (a3 - (1:Int)))) fun x0=>
 Va (idx a2 a3) fun x1=>Va (F81 x0.2.1 x1.1 a0.2.2.1) fun x2=>some x2
 else some false)
 fun x3=>bif x3 then some (Tr.imax (0:Int) (Vc .i64 (a1.2.1 - a0.2.1))) else some a1.2.1
def F78S:Tr.Spec:= {args:=(.cons (.pd Y29) (.cons (.pd Zva) (.cons (.pd ZrB) (.cons (.pd Y3) .nil)))),res:=(.cons (.pd Y3) .nil),fns:=[],α:=El Y3,f:=fun x=>F78 x.1 x.2.1 x.2.2.1 x.2.2.2.1,unp:=fun z=>(((),(),(),(),()),(z,())) }
theorem F78_ok:ZaS Tryz.prog 121 F78S:=Zad (rws:=[]) (zxs:=[]) (nt:=35) (m:=[(130,[F81S])]) (fn:=Tryz.f121) (hint:=(hS (.seq (.seq (.reg [(26,Y4)]) .leaf) .leaf))) (pack:=fun y=>y.2.1) Za1 tab_ok ⟨⟨F81_ok,trivial⟩,trivial⟩ fun x z h=> .trans (by kernel_rfl) h
def F76: (El Y29)->(El ZrB)->Option (El Y3×El Zvi×El Y4):=fun a0 a1=>
 Va
 (Zam
 (decide
 ((0:El (Tr.Ty.int .i64))<=Vc .i64 ((↑(Vb a1):Int)+(1:Int))/\
 Vc .i64 ((↑(Vb a1):Int)+(1:Int))<=Vc .i64 ((↑(Vb a1):Int)+(1:Int))/\
 Vc .i64 ((↑(Vb a1):Int)+(1:Int))<=(↑Zan:El (Tr.Ty.int .i64)))))
 fun _=>
 Va (inb (↑(Vb a1):Int) (Vb (Vg (Vh (Vc .i64 ((↑(Vb a1):Int)+(1:Int)))) ((false,(0:Int),([]:List (El ZwR)),()))))) fun x1=>
 Va (Vg (Vh (Vc .i64 ((↑(Vb a1):Int)+(1:Int)))) ((false,(0:Int),([]:List (El ZwR)),())))[x1]? fun x2=>
 Va
 (run
 (fun s3=>
 bif decide ((0:Int)<=s3.2) then
 Va
 (run
 (fun s4=>
 bif decide (s4.2< (↑(Vb a1):Int)) then
 Va (inb (Vc .i64 (s4.2+(1:Int))) (Vb s4.1)) fun x5=>
 Va s4.1[x5]? fun x6=>
 bif !x6.1 then some (.inl (s4.1,Vc .i64 (s4.2+(1:Int))))
 else
 Va
 (run
 (fun s7=>
 bif decide (s7.2< (↑(Vb a0.1):Int)) then
 Va (idx a0.1 s7.2) fun x8=>
 Va (F74 x8 a1 s3.2 s4.2) fun x9=>
 bif !x9 then some (.inl (s7.1,Vc .i64 (s7.2+(1:Int))))
 else
 Va (idx a0.1 s7.2) fun x10=>
 Va (F78 a0 x10 a1 s3.2) fun x11=>
 Va (inb (Vc .i64 (s4.2+(1:Int))) (Vb s7.1)) fun x12=>
 Va s7.1[x12]? fun x13=>
 Va
 (Va (inb s3.2 (Vb s7.1)) fun x14=>
 Va s7.1[x14]? fun x15=>
 bif x15.1 then
 Va (inb s3.2 (Vb s7.1)) fun x16=>
 Va s7.1[x16]? fun x17=>
 bif decide (x17.2.1<Vc .i64 (x11+x13.2.1)) then some true
 else
 Va (inb s3.2 (Vb s7.1)) fun x18=>
 Va s7.1[x18]? fun x19=>
 bif decide (Vc .i64 (x11+x13.2.1)=x19.2.1) then
 Va (inb (Vc .i64 (s4.2+(1:Int))) (Vb s7.1)) fun x20=>
 Va s7.1[x20]? fun x21=>
 Va (inb s3.2 (Vb s7.1)) fun x22=>
 Va s7.1[x22]? fun x23=>
 some
 (decide
 ((↑(Vb x23.2.2.1):Int)<=
 Vc .i64 ((1:Int)+(↑(Vb x21.2.2.1):Int))))
 else some false
 else some false)
 fun x24=>
 bif x24 then some (.inl (s7.1,Vc .i64 (s7.2+(1:Int))))
 else
 Va (inb (Vc .i64 (s4.2+(1:Int))) (Vb s7.1)) fun x25=>
 Va s7.1[x25]? fun x26=>
 Va (Zam (decide (Vb [(s7.2,s3.2,s4.2,x11,())]+Vb x26.2.2.1<=Zan)))
 fun _=>
 Va (inb s3.2 (Vb s7.1)) fun x28=>
 Va s7.1[x28]? fun _=>
 some
 (.inl
 (Vd s7.1 x28
 (true,Vc .i64 (x11+x13.2.1),[(s7.2,s3.2,s4.2,x11,())]++x26.2.2.1,()),
 Vc .i64 (s7.2+(1:Int))))
 else some (.inr s7.1))
 (s4.1,(0:Int)))
 fun x30=>some (.inl (x30,Vc .i64 (s4.2+(1:Int))))
 else some (.inr s4.1))
 (s3.1,s3.2))
 fun x31=>some (.inl (x31,Vc .i64 (s3.2 - (1:Int))))
 else some (.inr s3.1))
 (Vd (Vg (Vh (Vc .i64 ((↑(Vb a1):Int)+(1:Int)))) ((false,(0:Int),([]:List (El ZwR)),()))) x1 (true,x2.2),
 Vc .i64 ((↑(Vb a1):Int) - (1:Int))))
 fun x32=>
 Va (inb (0:Int) (Vb x32)) fun x33=>
 Va x32[x33]? fun x34=>
 Va (inb (0:Int) (Vb x32)) fun x35=>
 Va x32[x35]? fun x36=>Va (inb (0:Int) (Vb x32)) fun x37=>Va x32[x37]? fun x38=>some (x34.2.1,x36.2.2.1,x38.1)
def F76S:Tr.Spec:= {args:=(.cons (.pd Y29) (.cons (.pd ZrB) .nil)),res:=(.cons (.pd Y3) (.cons (.pd Zvi) (.cons (.pd Y4) .nil))),fns:=[],α:=El Y3×El Zvi×El Y4,f:=fun x=>F76 x.1 x.2.1,unp:=fun z=>(((),(),()),(z.1,z.2.1,z.2.2,())) }
theorem F76_ok:ZaS Tryz.prog 108 F76S:=Zad (rws:=[173]) (zxs:=[]) (nt:=150) (m:=[(120,[F74S]),(121,[F78S])]) (fn:=Tryz.f108) (hint:=(hS (hS (hS (.seq (hS (.lp ⟨[(7,(.own Zvd false)),(8,(.pd Y3))],[],[1,2],[],[],[]⟩ [((.exit 0),⟨[(7,(.own Zvd false))],[],[],[],[],[]⟩)] (hS (.seq (hS (.lp ⟨[(7,(.own Zvd false)),(9,(.pd Y3))],[],[1,2,8],[],[],[]⟩ [((.exit 2),⟨[(7,(.own Zvd false))],[],[1,2,8],[],[],[]⟩)] (hS (.seq (hS (hS (.lp ⟨[(7,(.own Zvd false)),(10,(.pd Y3))],[],[1,2,8,9],[],[],[]⟩ [((.exit 4),⟨[(7,(.own Zvd false))],[],[1,2,8,9],[],[],[]⟩)] (hS (.seq (hS (hS (hS (.seq (.seq (.reg [(117,Y4)]) .leaf) .leaf)))) .leaf))))) .leaf)))) .leaf)))) .leaf))))) (pack:=fun y=>(y.2.1,y.2.2.1,y.2.2.2.1)) Za1 tab_ok ⟨⟨F74_ok,trivial⟩,⟨F78_ok,trivial⟩,trivial⟩ fun x z h=> .trans (by kernel_rfl) h
def F72: (El Y29)->(El Y3)->Option (El Y3):=fun a0 a1=>bif decide ((0:Int)<a0.2.2.2.1) then some (Tr.imin a0.2.2.2.1 a1) else some a1
def F72S:Tr.Spec:= {args:=(.cons (.pd Y29) (.cons (.pd Y3) .nil)),res:=(.cons (.pd Y3) .nil),fns:=[],α:=El Y3,f:=fun x=>F72 x.1 x.2.1,unp:=fun z=>(((),(),()),(z,())) }
theorem F72_ok:ZaS Tryz.prog 109 F72S:=Zad (rws:=[]) (zxs:=[]) (nt:=13) (m:=[]) (fn:=Tryz.f109) (hint:= .leaf) (pack:=fun y=>y.2.1) Za1 tab_ok trivial fun x z h=> .trans (by kernel_rfl) h
def F73: (El Y31)->(El Y33)->(El Y43)->Option (El ZwF×El Zvi×El Y36):=fun a0 a1 a2=>
 Va (F77 a0 a2) fun x0=>
 bif !decide (x0.2=(0:Int)) then some (((0:Int),(0:Int),(0:Int),(0:Int),(0:Int),()),[],x0.2)
 else
 bif decide ((8:Int)< (↑(Vb x0.1):Int)) then some (((0:Int),(0:Int),(0:Int),(0:Int),(0:Int),()),[],(33:Int))
 else
 Va (F76 a0.2.2.2.2.2.1 x0.1) fun x1=>
 bif !x1.2.2 then some (((0:Int),(0:Int),(0:Int),(0:Int),(0:Int),()),[],(34:Int))
 else
 Va (F72 a0.2.2.2.2.2.1 x1.1) fun x2=>
 Va (F79 a2) fun x3=>
 Va
 (bif decide ((0:Int)< (↑(Vb a2.1):Int)) then
 Va (idx a2.1 (0:Int)) fun x4=>
 Va (idx a2.1 (Vc .i64 ((↑(Vb a2.1):Int) - (1:Int)))) fun x5=>
 some (x4.2.2.2.2.2.2.1,x5.2.2.2.2.2.2.2.1,(↑(Vb x0.1):Int),x2,x3,())
 else some (a1.2.2.1,a1.2.2.1,(↑(Vb x0.1):Int),x2,x3,()))
 fun x6=>some (x6,x1.2.1,(0:Int))
def F73S:Tr.Spec:= {args:=(.cons (.pd Y31) (.cons (.pd Y33) (.cons (.pd Y43) .nil))),res:=(.cons (.pd ZwF) (.cons (.pd Zvi) (.cons (.pd Y36) .nil))),fns:=[],α:=El ZwF×El Zvi×El Y36,f:=fun x=>F73 x.1 x.2.1 x.2.2.1,unp:=fun z=>(((),(),(),()),(z.1,z.2.1,z.2.2,())) }
theorem F73_ok:ZaS Tryz.prog 78 F73S:=Zad (rws:=[]) (zxs:=[]) (nt:=75) (m:=[(35,[F79S]),(107,[F77S]),(108,[F76S]),(109,[F72S])]) (fn:=Tryz.f78) (hint:=(hS (hS (hS (hS (hS (hS (hS (.seq (hS (.cnd (some (⟨[],[],[6,12],[],[],[]⟩,[(.normal,⟨[(14,(.var ZwF (.pd ZwF)))],[],[6,12],[],[],[]⟩)])) .leaf .leaf)) .leaf))))))))) (pack:=fun y=>(y.2.1,y.2.2.1,y.2.2.2.1)) Za1 tab_ok ⟨⟨F79_ok,trivial⟩,⟨F77_ok,trivial⟩,⟨F76_ok,trivial⟩,⟨F72_ok,trivial⟩,trivial⟩ fun x z h=> .trans (by kernel_rfl) h
def F91: (El Y31)->(El Y33)->(El Y43)->Option (El Y36):=fun a0 a1 a2=>
 Va (idx a2.1 (Vc .i64 ((↑(Vb a2.1):Int) - (1:Int)))) fun x0=>
 bif !decide (x0.2.2.2.2.2.1=a1.2.1) then some (24:Int)
 else
 Va (bif a1.2.2.2.1 then some (decide (a1.2.2.1<x0.2.2.2.2.2.2.2.1)) else some false) fun x1=>
 bif x1 then some (10:Int)
 else
 Va
 (run
 (fun s2=>
 bif decide (s2.2< (↑(Vb a2.1):Int)) then
 Va
 (Va (idx a2.1 s2.2) fun x3=>
 bif x3.1 then Va (idx a2.1 s2.2) fun x4=>some !x4.2.2.2.2.2.2.2.2.1 else some false)
 fun x5=>
 bif x5 then some (.inl (Vc .i64 (s2.1+(1:Int)),Vc .i64 (s2.2+(1:Int))))
 else some (.inl (s2.1,Vc .i64 (s2.2+(1:Int))))
 else some (.inr s2.1))
 ((0:Int),(0:Int)))
 fun x6=>
 bif decide (a1.2.2.2.2.1<x6) then some (33:Int)
 else
 Va (F79 a2) fun x7=>
 bif decide (a1.2.2.2.2.2.1<x7) then some (32:Int) else Va (F73 a0 a1 a2) fun x8=>some x8.2.2
def F91S:Tr.Spec:= {args:=(.cons (.pd Y31) (.cons (.pd Y33) (.cons (.pd Y43) .nil))),res:=(.cons (.pd Y36) .nil),fns:=[],α:=El Y36,f:=fun x=>F91 x.1 x.2.1 x.2.2.1,unp:=fun z=>(((),(),(),()),(z,())) }
theorem F91_ok:ZaS Tryz.prog 52 F91S:=Zad (rws:=[43]) (zxs:=[]) (nt:=77) (m:=[(35,[F79S]),(78,[F73S])]) (fn:=Tryz.f52) (hint:=(hS (hS (hS (.seq (.seq (.reg [(34,Y4)]) .leaf) (hS (.seq (hS (.lp ⟨[(8,(.pd Y3)),(9,(.pd Y3))],[],[3,4,5],[],[],[]⟩ [((.exit 0),⟨[(8,(.pd Y3))],[],[3,4,5],[],[],[]⟩)] (hS (.seq (.seq (.reg [(56,Y4)]) .leaf) .leaf)))) .leaf))))))) (pack:=fun y=>y.2.1) Za1 tab_ok ⟨⟨F79_ok,trivial⟩,⟨F73_ok,trivial⟩,trivial⟩ fun x z h=> .trans (by kernel_rfl) h
def F84: (El Y31)->(El Y33)->(El Y43)->Option (El Y3×El Y36):=fun a0 a1 a2=>
 Va (F85 a0 a1) fun x0=>
 bif !decide (x0=(0:Int)) then some ((0:Int),x0)
 else
 bif decide ((↑(Vb a2.1):Int)=(0:Int)) then bif !decide (a1.1=a1.2.1) then some ((0:Int),(24:Int)) else some ((0:Int),(0:Int))
 else
 Va
 (run
 (fun s1=>
 bif decide (s1< (↑(Vb a2.1):Int)) then
 Va (F90 a0 a1 a2 s1) fun x2=>
 bif !decide (x2=(0:Int)) then some (.inr (.inr (s1,x2))) else some (.inl (Vc .i64 (s1+(1:Int))))
 else some (.inr (.inl ())))
 (0:Int))
 fun x3=>
 Vf
 (fun _=>
 Va (F91 a0 a1 a2) fun x5=>
 bif !decide (x5=(0:Int)) then some (Vc .i64 ((↑(Vb a2.1):Int) - (1:Int)),x5) else some ((0:Int),(0:Int)))
 (fun y6=>some (y6.1,y6.2)) x3
def F84S:Tr.Spec:= {args:=(.cons (.pd Y31) (.cons (.pd Y33) (.cons (.pd Y43) .nil))),res:=(.cons (.pd Y3) (.cons (.pd Y36) .nil)),fns:=[],α:=El Y3×El Y36,f:=fun x=>F84 x.1 x.2.1 x.2.2.1,unp:=fun z=>(((),(),(),()),(z.1,z.2,())) }
theorem F84_ok:ZaS Tryz.prog 36 F84S:=Zad (rws:=[43]) (zxs:=[]) (nt:=52) (m:=[(13,[F85S]),(51,[F90S]),(52,[F91S])]) (fn:=Tryz.f36) (hint:=(hS (hS (hS (hS (.seq (hS (.lp ⟨[(9,(.pd Y3))],[],[3,4,5],[],[],[]⟩ [((.exit 0),⟨[],[],[3,4,5],[],[],[]⟩),(.ret,⟨[(6,(.pd Y3)),(7,(.pd Y36))],[],[],[],[],[]⟩)] .leaf)) .leaf)))))) (pack:=fun y=>(y.2.1,y.2.2.1)) Za1 tab_ok ⟨⟨F85_ok,trivial⟩,⟨F90_ok,trivial⟩,⟨F91_ok,trivial⟩,trivial⟩ fun x z h=> .trans (by kernel_rfl) h
def F86: (El Y31)->(El Y33)->(El Y43)->Option (El Y4):=fun a0 a1 a2=>Va (F84 a0 a1 a2) fun x0=>some (decide (x0.2=(0:Int)))
def F86S:Tr.Spec:= {args:=(.cons (.pd Y31) (.cons (.pd Y33) (.cons (.pd Y43) .nil))),res:=(.cons (.pd Y4) .nil),fns:=[],α:=El Y4,f:=fun x=>F86 x.1 x.2.1 x.2.2.1,unp:=fun z=>(((),(),(),()),(z,())) }
theorem F86_ok:ZaS Tryz.prog 25 F86S:=Zad (rws:=[43]) (zxs:=[]) (nt:=18) (m:=[(36,[F84S])]) (fn:=Tryz.f25) (hint:= .leaf) (pack:=fun y=>y.2.1) Za1 tab_ok ⟨⟨F84_ok,trivial⟩,trivial⟩ fun x z h=> .trans (by kernel_rfl) h
end
end Q
