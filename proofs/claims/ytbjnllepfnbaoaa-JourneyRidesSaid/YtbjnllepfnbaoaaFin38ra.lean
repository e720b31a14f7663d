/- The functions of the program as functions of Lean, and that the program computes them; printed by a program of mine. Conditions: none. -/
import Derived.Test.YtbjnllepfnbaoaaTsE
import Derived.KernelRfl
import Derived.Test.YtbjnllepfnbaoaaProg
open Tr Go Go.Proofs
namespace Q
/-- int -/
abbrev Y3 : Ty := .int .i64
/-- bool -/
abbrev Y4 : Ty := .bool
/-- uint8 -/
abbrev Y5 : Ty := .int .u8
/-- string -/
abbrev Y9 : Ty := .str
/-- api.Stop -/
abbrev Y66 : Ty := .prod Y9 (.prod Y3 (.prod Y4 (.prod Y3 .unit)))
/-- []api.Stop -/
abbrev Y22 : Ty := .sl Y66
/-- api.Route -/
abbrev Y68 : Ty := .prod Y9 (.prod Y3 (.prod Y4 .unit))
/-- []api.Route -/
abbrev Y23 : Ty := .sl Y68
/-- api.Call -/
abbrev Y70 : Ty := .prod Y3 (.prod Y3 (.prod Y3 (.prod Y4 (.prod Y4 .unit))))
/-- []api.Call -/
abbrev Y62 : Ty := .sl Y70
/-- api.Run -/
abbrev Y64 : Ty := .prod Y3 (.prod Y3 (.prod Y3 (.prod Y9 (.prod Y3 (.prod Y4 (.prod Y4 (.prod Y62 .unit)))))))
/-- []api.Run -/
abbrev Y24 : Ty := .sl Y64
/-- api.Link -/
abbrev Y118 : Ty := .prod Y3 (.prod Y3 (.prod Y3 (.prod Y3 (.prod Y4 .unit))))
/-- []api.Link -/
abbrev Y25 : Ty := .sl Y118
/-- api.Footpath -/
abbrev Y128 : Ty := .prod Y3 (.prod Y3 (.prod Y3 (.prod Y4 .unit)))
/-- []api.Footpath -/
abbrev Y26 : Ty := .sl Y128
/-- api.Product -/
abbrev Y125 : Ty := .prod Y9 (.prod Y3 (.prod Y3 (.prod Y3 (.prod Y3 (.prod Y3 .unit)))))
/-- []api.Product -/
abbrev Y27 : Ty := .sl Y125
/-- api.Fares -/
abbrev Y29 : Ty := .prod Y27 (.prod Y3 (.prod Y3 (.prod Y3 .unit)))
/-- api.Network -/
abbrev Y31 : Ty := .prod Y22 (.prod Y23 (.prod Y24 (.prod Y25 (.prod Y26 (.prod Y29 .unit)))))
/-- api.Leg -/
abbrev Y44 : Ty := .prod Y4 (.prod Y3 (.prod Y3 (.prod Y3 (.prod Y3 (.prod Y3 (.prod Y3 (.prod Y3 (.prod Y4 .unit))))))))
/-- []api.Leg -/
abbrev Y32 : Ty := .sl Y44
/-- api.Journey -/
abbrev Y34 : Ty := .prod Y32 .unit
/-- api.Ride -/
abbrev Y46 : Ty := .prod Y3 (.prod Y3 (.prod Y3 (.prod Y3 .unit)))
/-- []api.Ride -/
abbrev Y37 : Ty := .sl Y46
/-- api.Errno -/
abbrev Y38 : Ty := .int .i64
/-- []int -/
abbrev Y47 : Ty := .sl Y3
/-- uint64 -/
abbrev Y73 : Ty := .int .u64
/-- bitset.Set -/
abbrev Y74 : Ty := .int .u64
/-- network.result -/
abbrev Y88 : Ty := .prod Y3 (.prod Y3 (.prod Y38 .unit))
/-- map[string]bool -/
abbrev Y106 : Ty := .ref
/-- []network.result -/
abbrev Y109 : Ty := .sl Y88
/-- network.runKey -/
abbrev Y113 : Ty := .prod Y9 (.prod Y3 (.prod Y3 .unit))
/-- map[network.runKey]bool -/
abbrev Y110 : Ty := .ref
/-- map[int]int -/
abbrev Y114 : Ty := .ref
/-- map[int]bool -/
abbrev Y115 : Ty := .ref
/-- [4]int -/
abbrev Y120 : Ty := .arr 4 Y3
/-- map[[4]int]bool -/
abbrev Y116 : Ty := .ref
/-- map[api.Footpath]bool -/
abbrev Y126 : Ty := .ref
/-- [][]int -/
abbrev Y138 : Ty := .sl Y47
/-- footpath.pair -/
abbrev Y146 : Ty := .prod Y3 (.prod Y3 (.prod Y4 .unit))
/-- map[footpath.pair]bool -/
abbrev Y144 : Ty := .ref
/-- map[footpath.pair]int -/
abbrev Y152 : Ty := .ref
/-- shortest.Edge -/
abbrev Y155 : Ty := .prod Y3 (.prod Y3 (.prod Y3 .unit))
/-- []shortest.Edge -/
abbrev Y153 : Ty := .sl Y155
/-- uint -/
abbrev Y160 : Ty := .int .u64
/-- map[int][]shortest.Edge -/
abbrev Y162 : Ty := .ref
/-- shortest.label -/
abbrev Y178 : Ty := .prod Y3 (.prod Y3 (.prod Y3 .unit))
/-- []shortest.label -/
abbrev Y165 : Ty := .sl Y178
/-- slices.sortedHint -/
abbrev Y168 : Ty := .int .i64
/-- uint32 -/
abbrev Y175 : Ty := .int .u32
/-- func(shortest.label, shortest.label) bool -/
abbrev Y181 : Ty := .ref
/-- heap.node[transit/shortest.label] -/
abbrev Y195 : Ty := .prod Y178 (.prod Y3 .unit)
/-- []heap.node[transit/shortest.label] -/
abbrev Y191 : Ty := .sl Y195
/-- heap.Heap[transit/shortest.label] -/
abbrev Y193 : Ty := .prod Y181 (.prod Y191 (.prod Y3 .unit))
def tyTab : List (Nat × Ty) := [(3, Y3), (4, Y4), (5, Y5), (9, Y9), (66, Y66), (22, Y22), (68, Y68), (23, Y23), (70, Y70), (62, Y62), (64, Y64), (24, Y24), (118, Y118), (25, Y25), (128, Y128), (26, Y26), (125, Y125), (27, Y27), (29, Y29), (31, Y31), (44, Y44), (32, Y32), (34, Y34), (46, Y46), (37, Y37), (38, Y38), (47, Y47), (73, Y73), (74, Y74), (88, Y88), (106, Y106), (109, Y109), (113, Y113), (110, Y110), (114, Y114), (115, Y115), (120, Y120), (116, Y116), (126, Y126), (138, Y138), (146, Y146), (144, Y144), (152, Y152), (155, Y155), (153, Y153), (160, Y160), (162, Y162), (178, Y178), (165, Y165), (168, Y168), (175, Y175), (181, Y181), (195, Y195), (191, Y191), (193, Y193)]
def mapTab : List (Nat × Ty × Ty) := [(106, Y9, Y4), (110, Y113, Y4), (114, Y3, Y3), (115, Y3, Y4), (116, Y120, Y4), (126, Y128, Y4), (144, Y146, Y4), (152, Y146, Y3), (162, Y3, Y153)]
def pkTab : List (Nat × Nat) := [(179, 1), (181, 2)]
theorem hmix : Try.prog.follows .mixedOrders = true := by kernel_rfl
theorem tab_ok : tabOk Try.prog tyTab mapTab pkTab = true := by kernel_rfl
noncomputable def F_law38_light : (El Y31) → (El Y34) → Option (El Y4) := fun a0 a1 =>
  Option.bind
    (bif Decidable.decide ((20 : Int) < (↑(List.length a0.fst) : Int)) then Option.some Bool.true
    else
      bif Decidable.decide ((20 : Int) < (↑(List.length a0.snd.fst) : Int)) then Option.some Bool.true
      else
        bif Decidable.decide ((20 : Int) < (↑(List.length a0.snd.snd.fst) : Int)) then Option.some Bool.true
        else
          bif Decidable.decide ((40 : Int) < (↑(List.length a0.snd.snd.snd.fst) : Int)) then Option.some Bool.true
          else
            bif Decidable.decide ((200 : Int) < (↑(List.length a0.snd.snd.snd.snd.fst) : Int)) then Option.some Bool.true
            else
              bif Decidable.decide ((16 : Int) < (↑(List.length a0.snd.snd.snd.snd.snd.fst.fst) : Int)) then Option.some Bool.true
              else Option.some (Decidable.decide ((20 : Int) < (↑(List.length a1.fst) : Int))))
    fun x0 =>
    bif x0 then Option.some Bool.false
    else
      Option.bind
        (Tr.run
          (fun s1 =>
            bif Decidable.decide (s1 < (↑(List.length a0.snd.snd.fst) : Int)) then
              Option.bind (Tr.idx a0.snd.snd.fst s1) fun x2 =>
                bif Decidable.decide ((40 : Int) < (↑(List.length x2.snd.snd.snd.snd.snd.snd.snd.fst) : Int)) then Option.some (Sum.inr (Sum.inr Bool.false))
                else Option.some (Sum.inl (Go.IntKind.wrap Go.IntKind.i64 (s1 + (1 : Int))))
            else Option.some (Sum.inr (Sum.inl ())))
          (0 : Int))
        fun x3 => Sum.elim (fun _ => Option.some Bool.true) (fun y5 => Option.some y5) x3
abbrev F_law38_lightA : Pats := (.cons (.pd Y31) (.cons (.pd Y34) .nil))
abbrev F_law38_lightR : Pats := (.cons (.pd Y4) .nil)
noncomputable def F_law38_lightS : Tr.Spec := { args := F_law38_lightA, res := F_law38_lightR, fns := [], α := El Y4, f := fun x => F_law38_light x.1 x.2.1, unp := fun z => (((), (), ()), (z, ())) }
noncomputable def F_law38_lightE : Env := { ty := fun n => tyTab.lookup n, mty := fun n => mapTab.lookup n, pk := fun n => (pkTab.lookup n).getD 0, rw := fun n => [].contains n, specs := fun n => (([] : List (Nat × List Tr.Spec)).lookup n).getD [], nt := 62, ks := [] }
noncomputable def F_law38_lightB : Code := match Try.f8.body with | some b => b | none => .skip
def F_law38_lightH : Hint := (.seq .leaf (.seq (.seq (.reg [(46, Y4)]) .leaf) (.seq (.seq .leaf (.lp ⟨[(50, (.pd Y3))], [], [2, 49]⟩ [((.exit 0), ⟨[], [], []⟩), (.ret, ⟨[(4, (.pd Y4))], [], []⟩)] .leaf)) .leaf)))
noncomputable def F_law38_lightV (a0 : El Y31) (a1 : El Y34) : Option (El Y4) := evalF F_law38_lightE F_law38_lightB Try.f8.results F_law38_lightH F_law38_lightA F_law38_lightR (fun y => y.2.1) (a0, a1, ())
theorem F_law38_light_eq (a0 : El Y31) (a1 : El Y34) : F_law38_lightV a0 a1 = F_law38_light a0 a1 := by kernel_rfl
theorem F_law38_light_ok : FnOK Try.prog 8 F_law38_lightS := evalF_ok (E := F_law38_lightE) (fn := Try.f8) (body := F_law38_lightB) (hint := F_law38_lightH) (pack := fun y => y.2.1) hmix (typesOk_of tab_ok rfl rfl rfl) (specsOk_of (m := []) trivial rfl) (by kernel_rfl) (by kernel_rfl) (by kernel_rfl) (by kernel_rfl) (by kernel_rfl) (by kernel_rfl) (fun y => rfl)
  (fun x z h => (F_law38_light_eq x.1 x.2.1).trans h)
noncomputable def F_ident_Valid : (El Y9) → Option (El Y4) := fun a0 =>
  Option.bind
    (Tr.run
      (fun s0 =>
        bif Decidable.decide (s0 < (↑(List.length a0) : Int)) then
          Option.bind (Tr.idx a0 s0) fun x1 =>
            Option.bind (bif Decidable.decide ((97 : Int) ≤ (↑(UInt8.toNat x1) : Int)) then Option.some (Decidable.decide ((↑(UInt8.toNat x1) : Int) ≤ (122 : Int))) else Option.some Bool.false)
              fun x2 =>
              Option.bind
                (bif x2 then Option.some x2
                else
                  Option.bind (bif Decidable.decide ((65 : Int) ≤ (↑(UInt8.toNat x1) : Int)) then Option.some (Decidable.decide ((↑(UInt8.toNat x1) : Int) ≤ (90 : Int))) else Option.some Bool.false)
                    fun x3 =>
                    Option.bind
                      (bif x3 then Option.some x3
                      else
                        Option.bind
                          (bif Decidable.decide ((48 : Int) ≤ (↑(UInt8.toNat x1) : Int)) then Option.some (Decidable.decide ((↑(UInt8.toNat x1) : Int) ≤ (57 : Int))) else Option.some Bool.false)
                          fun x4 => Option.some x4)
                      fun x5 => Option.some x5)
                fun x6 =>
                bif x6 then Option.some (Sum.inl (Go.IntKind.wrap Go.IntKind.i64 (s0 + (1 : Int))))
                else
                  Option.bind
                    (bif Decidable.decide ((↑(UInt8.toNat x1) : Int) = (45 : Int)) then Option.some (Decidable.decide ((↑(UInt8.toNat x1) : Int) = (45 : Int)))
                    else
                      Option.bind
                        (bif Decidable.decide ((↑(UInt8.toNat x1) : Int) = (95 : Int)) then Option.some (Decidable.decide ((↑(UInt8.toNat x1) : Int) = (95 : Int)))
                        else Option.some (Decidable.decide ((↑(UInt8.toNat x1) : Int) = (46 : Int))))
                        fun x7 => Option.some x7)
                    fun x8 => bif x8 then Option.some (Sum.inl (Go.IntKind.wrap Go.IntKind.i64 (s0 + (1 : Int)))) else Option.some (Sum.inr (Sum.inr Bool.false))
        else Option.some (Sum.inr (Sum.inl ())))
      (0 : Int))
    fun x9 =>
    Sum.elim
      (fun _ =>
        Option.bind (bif Decidable.decide ((0 : Int) < (↑(List.length a0) : Int)) then Option.some (Decidable.decide ((↑(List.length a0) : Int) ≤ (32 : Int))) else Option.some Bool.false) fun x11 =>
          Option.some x11)
      (fun y12 => Option.some y12) x9
abbrev F_ident_ValidA : Pats := (.cons (.pd Y9) .nil)
abbrev F_ident_ValidR : Pats := (.cons (.pd Y4) .nil)
noncomputable def F_ident_ValidS : Tr.Spec := { args := F_ident_ValidA, res := F_ident_ValidR, fns := [], α := El Y4, f := fun x => F_ident_Valid x.1, unp := fun z => (((), ()), (z, ())) }
noncomputable def F_ident_ValidE : Env := { ty := fun n => tyTab.lookup n, mty := fun n => mapTab.lookup n, pk := fun n => (pkTab.lookup n).getD 0, rw := fun n => [].contains n, specs := fun n => (([] : List (Nat × List Tr.Spec)).lookup n).getD [], nt := 48, ks := [] }
noncomputable def F_ident_ValidB : Code := match Try.f52.body with | some b => b | none => .skip
def F_ident_ValidH : Hint := (.seq .leaf (.seq (.seq .leaf (.lp ⟨[(3, (.pd Y3))], [], [0]⟩ [((.exit 0), ⟨[], [], [0]⟩), (.ret, ⟨[(2, (.pd Y4))], [], []⟩)] (.seq .leaf (.seq (.seq .leaf (.seq (.seq (.reg [(14, Y4)]) (.cnd (some (⟨[], [], [0, 3, 4]⟩, [(.normal, ⟨[(14, (.pd Y4))], [], [0, 3, 4]⟩)])) .leaf (.seq (.reg [(14, Y4)]) (.cnd (some (⟨[], [], [0, 3, 4]⟩, [(.normal, ⟨[(14, (.pd Y4))], [], [0, 3, 4]⟩)])) .leaf (.reg [(14, Y4)]))))) (.cnd none .leaf (.seq (.seq .leaf (.cnd (some (⟨[], [], [0, 3]⟩, [(.normal, ⟨[(33, (.pd Y4))], [], [0, 3]⟩)])) .leaf (.seq .leaf (.cnd (some (⟨[], [], [0, 3]⟩, [(.normal, ⟨[(33, (.pd Y4))], [], [0, 3]⟩)])) .leaf .leaf)))) .leaf)))) .leaf)))) (.seq (.reg [(2, Y4)]) .leaf)))
noncomputable def F_ident_ValidV (a0 : El Y9) : Option (El Y4) := evalF F_ident_ValidE F_ident_ValidB Try.f52.results F_ident_ValidH F_ident_ValidA F_ident_ValidR (fun y => y.2.1) (a0, ())
theorem F_ident_Valid_eq (a0 : El Y9) : F_ident_ValidV a0 = F_ident_Valid a0 := by kernel_rfl
theorem F_ident_Valid_ok : FnOK Try.prog 52 F_ident_ValidS := evalF_ok (E := F_ident_ValidE) (fn := Try.f52) (body := F_ident_ValidB) (hint := F_ident_ValidH) (pack := fun y => y.2.1) hmix (typesOk_of tab_ok rfl rfl rfl) (specsOk_of (m := []) trivial rfl) (by kernel_rfl) (by kernel_rfl) (by kernel_rfl) (by kernel_rfl) (by kernel_rfl) (by kernel_rfl) (fun y => rfl)
  (fun x z h => (F_ident_Valid_eq x.1).trans h)
noncomputable def F_stop_Check : (El Y22) → Option (El Y3 × El Y38) := fun a0 =>
  bif Decidable.decide ((64 : Int) < (↑(List.length a0) : Int)) then Option.some ((0 : Int), (5 : Int))
  else
    Option.bind
      (Tr.run
        (fun s0 =>
          bif Decidable.decide (s0.snd < (↑(List.length a0) : Int)) then
            Option.bind (Tr.idx a0 s0.snd) fun x1 =>
              Option.bind (F_ident_Valid x1.fst) fun x2 =>
                bif !x2 then Option.some (Sum.inr (Sum.inr (s0.snd, (12 : Int))))
                else
                  bif Option.getD (Tr.amGet (Tr.keyEq Y9) x1.fst s0.fst) (Bool.false) then Option.some (Sum.inr (Sum.inr (s0.snd, (6 : Int))))
                  else
                    Option.bind
                      (bif Decidable.decide (x1.snd.fst < (0 : Int)) then Option.some Bool.true
                      else
                        bif Decidable.decide ((16 : Int) ≤ x1.snd.fst) then Option.some Bool.true
                        else bif Decidable.decide (x1.snd.snd.snd.fst < (0 : Int)) then Option.some Bool.true else Option.some (Decidable.decide ((3600 : Int) < x1.snd.snd.snd.fst)))
                      fun x3 =>
                      bif x3 then Option.some (Sum.inr (Sum.inr (s0.snd, (2 : Int))))
                      else Option.some (Sum.inl (Tr.amSet (Tr.keyEq Y9) x1.fst Bool.true s0.fst, Go.IntKind.wrap Go.IntKind.i64 (s0.snd + (1 : Int))))
          else Option.some (Sum.inr (Sum.inl ())))
        ([], (0 : Int)))
      fun x4 => Sum.elim (fun _ => Option.some ((0 : Int), (0 : Int))) (fun y6 => Option.some (y6.fst, y6.snd)) x4
abbrev F_stop_CheckA : Pats := (.cons (.pd Y22) .nil)
abbrev F_stop_CheckR : Pats := (.cons (.pd Y3) (.cons (.pd Y38) .nil))
noncomputable def F_stop_CheckS : Tr.Spec := { args := F_stop_CheckA, res := F_stop_CheckR, fns := [], α := El Y3 × El Y38, f := fun x => F_stop_Check x.1, unp := fun z => (((), ()), (z.1, z.2, ())) }
noncomputable def F_stop_CheckE : Env := { ty := fun n => tyTab.lookup n, mty := fun n => mapTab.lookup n, pk := fun n => (pkTab.lookup n).getD 0, rw := fun n => [].contains n, specs := fun n => (([(52, [F_ident_ValidS])] : List (Nat × List Tr.Spec)).lookup n).getD [], nt := 54, ks := [] }
noncomputable def F_stop_CheckB : Code := match Try.f32.body with | some b => b | none => .skip
def F_stop_CheckH : Hint := (.seq .leaf (.seq .leaf (.seq .leaf (.seq (.seq .leaf (.lp ⟨[(4, (.map Y9 Y4)), (13, (.pd Y3))], [], [11, 12]⟩ [((.exit 0), ⟨[], [], []⟩), (.ret, ⟨[(2, (.pd Y3)), (3, (.pd Y38))], [], []⟩)] (.seq .leaf (.seq .leaf (.seq (.seq .leaf (.seq (.seq .leaf (.cnd none .leaf (.seq .leaf (.cnd none .leaf (.seq (.reg [(30, Y4)]) .leaf))))) .leaf)) .leaf))))) .leaf))))
noncomputable def F_stop_CheckV (a0 : El Y22) : Option (El Y3 × El Y38) := evalF F_stop_CheckE F_stop_CheckB Try.f32.results F_stop_CheckH F_stop_CheckA F_stop_CheckR (fun y => (y.2.1, y.2.2.1)) (a0, ())
theorem F_stop_Check_eq (a0 : El Y22) : F_stop_CheckV a0 = F_stop_Check a0 := by kernel_rfl
theorem F_stop_Check_ok : FnOK Try.prog 32 F_stop_CheckS := evalF_ok (E := F_stop_CheckE) (fn := Try.f32) (body := F_stop_CheckB) (hint := F_stop_CheckH) (pack := fun y => (y.2.1, y.2.2.1)) hmix (typesOk_of tab_ok rfl rfl rfl) (specsOk_of (m := [(52, [F_ident_ValidS])]) ⟨⟨F_ident_Valid_ok, trivial⟩, trivial⟩ rfl) (by kernel_rfl) (by kernel_rfl) (by kernel_rfl) (by kernel_rfl) (by kernel_rfl) (by kernel_rfl) (fun y => rfl)
  (fun x z h => (F_stop_Check_eq x.1).trans h)
noncomputable def F_route_known : (El Y3) → Option (El Y4) := fun a0 => Option.bind (bif Decidable.decide ((0 : Int) ≤ a0) then Option.some (Decidable.decide (a0 < (8 : Int))) else Option.some Bool.false) fun x0 => Option.some x0
abbrev F_route_knownA : Pats := (.cons (.pd Y3) .nil)
abbrev F_route_knownR : Pats := (.cons (.pd Y4) .nil)
noncomputable def F_route_knownS : Tr.Spec := { args := F_route_knownA, res := F_route_knownR, fns := [], α := El Y4, f := fun x => F_route_known x.1, unp := fun z => (((), ()), (z, ())) }
noncomputable def F_route_knownE : Env := { ty := fun n => tyTab.lookup n, mty := fun n => mapTab.lookup n, pk := fun n => (pkTab.lookup n).getD 0, rw := fun n => [].contains n, specs := fun n => (([] : List (Nat × List Tr.Spec)).lookup n).getD [], nt := 9, ks := [] }
noncomputable def F_route_knownB : Code := match Try.f53.body with | some b => b | none => .skip
def F_route_knownH : Hint := (.seq .leaf (.seq (.reg [(2, Y4)]) .leaf))
noncomputable def F_route_knownV (a0 : El Y3) : Option (El Y4) := evalF F_route_knownE F_route_knownB Try.f53.results F_route_knownH F_route_knownA F_route_knownR (fun y => y.2.1) (a0, ())
theorem F_route_known_eq (a0 : El Y3) : F_route_knownV a0 = F_route_known a0 := by kernel_rfl
theorem F_route_known_ok : FnOK Try.prog 53 F_route_knownS := evalF_ok (E := F_route_knownE) (fn := Try.f53) (body := F_route_knownB) (hint := F_route_knownH) (pack := fun y => y.2.1) hmix (typesOk_of tab_ok rfl rfl rfl) (specsOk_of (m := []) trivial rfl) (by kernel_rfl) (by kernel_rfl) (by kernel_rfl) (by kernel_rfl) (by kernel_rfl) (by kernel_rfl) (fun y => rfl)
  (fun x z h => (F_route_known_eq x.1).trans h)
noncomputable def F_route_Check : (El Y23) → Option (El Y3 × El Y38) := fun a0 =>
  bif Decidable.decide ((64 : Int) < (↑(List.length a0) : Int)) then Option.some ((0 : Int), (5 : Int))
  else
    Option.bind
      (Tr.run
        (fun s0 =>
          bif Decidable.decide (s0.snd < (↑(List.length a0) : Int)) then
            Option.bind (Tr.idx a0 s0.snd) fun x1 =>
              Option.bind (F_ident_Valid x1.fst) fun x2 =>
                bif !x2 then Option.some (Sum.inr (Sum.inr (s0.snd, (12 : Int))))
                else
                  bif Option.getD (Tr.amGet (Tr.keyEq Y9) x1.fst s0.fst) (Bool.false) then Option.some (Sum.inr (Sum.inr (s0.snd, (6 : Int))))
                  else
                    Option.bind (F_route_known x1.snd.fst) fun x3 =>
                      bif !x3 then Option.some (Sum.inr (Sum.inr (s0.snd, (2 : Int))))
                      else Option.some (Sum.inl (Tr.amSet (Tr.keyEq Y9) x1.fst Bool.true s0.fst, Go.IntKind.wrap Go.IntKind.i64 (s0.snd + (1 : Int))))
          else Option.some (Sum.inr (Sum.inl ())))
        ([], (0 : Int)))
      fun x4 => Sum.elim (fun _ => Option.some ((0 : Int), (0 : Int))) (fun y6 => Option.some (y6.fst, y6.snd)) x4
abbrev F_route_CheckA : Pats := (.cons (.pd Y23) .nil)
abbrev F_route_CheckR : Pats := (.cons (.pd Y3) (.cons (.pd Y38) .nil))
noncomputable def F_route_CheckS : Tr.Spec := { args := F_route_CheckA, res := F_route_CheckR, fns := [], α := El Y3 × El Y38, f := fun x => F_route_Check x.1, unp := fun z => (((), ()), (z.1, z.2, ())) }
noncomputable def F_route_CheckE : Env := { ty := fun n => tyTab.lookup n, mty := fun n => mapTab.lookup n, pk := fun n => (pkTab.lookup n).getD 0, rw := fun n => [].contains n, specs := fun n => (([(52, [F_ident_ValidS]), (53, [F_route_knownS])] : List (Nat × List Tr.Spec)).lookup n).getD [], nt := 37, ks := [] }
noncomputable def F_route_CheckB : Code := match Try.f33.body with | some b => b | none => .skip
def F_route_CheckH : Hint := (.seq .leaf (.seq .leaf (.seq .leaf (.seq (.seq .leaf (.lp ⟨[(4, (.map Y9 Y4)), (13, (.pd Y3))], [], [11, 12]⟩ [((.exit 0), ⟨[], [], []⟩), (.ret, ⟨[(2, (.pd Y3)), (3, (.pd Y38))], [], []⟩)] .leaf)) .leaf))))
noncomputable def F_route_CheckV (a0 : El Y23) : Option (El Y3 × El Y38) := evalF F_route_CheckE F_route_CheckB Try.f33.results F_route_CheckH F_route_CheckA F_route_CheckR (fun y => (y.2.1, y.2.2.1)) (a0, ())
theorem F_route_Check_eq (a0 : El Y23) : F_route_CheckV a0 = F_route_Check a0 := by kernel_rfl
theorem F_route_Check_ok : FnOK Try.prog 33 F_route_CheckS := evalF_ok (E := F_route_CheckE) (fn := Try.f33) (body := F_route_CheckB) (hint := F_route_CheckH) (pack := fun y => (y.2.1, y.2.2.1)) hmix (typesOk_of tab_ok rfl rfl rfl) (specsOk_of (m := [(52, [F_ident_ValidS]), (53, [F_route_knownS])]) ⟨⟨F_ident_Valid_ok, trivial⟩, ⟨F_route_known_ok, trivial⟩, trivial⟩ rfl) (by kernel_rfl) (by kernel_rfl) (by kernel_rfl) (by kernel_rfl) (by kernel_rfl) (by kernel_rfl) (fun y => rfl)
  (fun x z h => (F_route_Check_eq x.1).trans h)
noncomputable def F_network_first : (El Y109) → Option (El Y88) := fun a0 =>
  Option.bind
    (Tr.run
      (fun s0 =>
        bif Decidable.decide (s0.snd < (↑(List.length a0) : Int)) then
          Option.bind (Tr.idx a0 s0.snd) fun x1 =>
            bif !Decidable.decide (x1.snd.snd.fst = (0 : Int)) then Option.some (Sum.inr (Sum.inr x1)) else Option.some (Sum.inl (s0.fst, Go.IntKind.wrap Go.IntKind.i64 (s0.snd + (1 : Int))))
        else Option.some (Sum.inr (Sum.inl s0.fst)))
      (((0 : Int), (0 : Int), (0 : Int), ()), (0 : Int)))
    fun x2 => Sum.elim (fun _ => Option.some ((0 : Int), (0 : Int), (0 : Int), ())) (fun y4 => Option.some y4) x2
abbrev F_network_firstA : Pats := (.cons (.pd Y109) .nil)
abbrev F_network_firstR : Pats := (.cons (.pd Y88) .nil)
noncomputable def F_network_firstS : Tr.Spec := { args := F_network_firstA, res := F_network_firstR, fns := [], α := El Y88, f := fun x => F_network_first x.1, unp := fun z => (((), ()), (z, ())) }
noncomputable def F_network_firstE : Env := { ty := fun n => tyTab.lookup n, mty := fun n => mapTab.lookup n, pk := fun n => (pkTab.lookup n).getD 0, rw := fun n => [].contains n, specs := fun n => (([] : List (Nat × List Tr.Spec)).lookup n).getD [], nt := 17, ks := [] }
noncomputable def F_network_firstB : Code := match Try.f34.body with | some b => b | none => .skip
def F_network_firstH : Hint := (.seq .leaf (.seq (.seq .leaf (.lp ⟨[(2, (.var Y88 (.pd Y88))), (7, (.pd Y3))], [], [5, 6]⟩ [((.exit 0), ⟨[(2, (.var Y88 (.pd Y88)))], [], []⟩), (.ret, ⟨[(2, (.var Y88 (.pd Y88)))], [], []⟩)] .leaf)) .leaf))
noncomputable def F_network_firstV (a0 : El Y109) : Option (El Y88) := evalF F_network_firstE F_network_firstB Try.f34.results F_network_firstH F_network_firstA F_network_firstR (fun y => y.2.1) (a0, ())
theorem F_network_first_eq (a0 : El Y109) : F_network_firstV a0 = F_network_first a0 := by kernel_rfl
theorem F_network_first_ok : FnOK Try.prog 34 F_network_firstS := evalF_ok (E := F_network_firstE) (fn := Try.f34) (body := F_network_firstB) (hint := F_network_firstH) (pack := fun y => y.2.1) hmix (typesOk_of tab_ok rfl rfl rfl) (specsOk_of (m := []) trivial rfl) (by kernel_rfl) (by kernel_rfl) (by kernel_rfl) (by kernel_rfl) (by kernel_rfl) (by kernel_rfl) (fun y => rfl)
  (fun x z h => (F_network_first_eq x.1).trans h)
noncomputable def F_network_of : (El Y3) → (El Y3) → (El Y38) → Option (El Y88) := fun a0 a1 a2 => Option.some (a0, a1, a2, ())
abbrev F_network_ofA : Pats := (.cons (.pd Y3) (.cons (.pd Y3) (.cons (.pd Y38) .nil)))
abbrev F_network_ofR : Pats := (.cons (.pd Y88) .nil)
noncomputable def F_network_ofS : Tr.Spec := { args := F_network_ofA, res := F_network_ofR, fns := [], α := El Y88, f := fun x => F_network_of x.1 x.2.1 x.2.2.1, unp := fun z => (((), (), (), ()), (z, ())) }
noncomputable def F_network_ofE : Env := { ty := fun n => tyTab.lookup n, mty := fun n => mapTab.lookup n, pk := fun n => (pkTab.lookup n).getD 0, rw := fun n => [].contains n, specs := fun n => (([] : List (Nat × List Tr.Spec)).lookup n).getD [], nt := 11, ks := [] }
noncomputable def F_network_ofB : Code := match Try.f35.body with | some b => b | none => .skip
def F_network_ofH : Hint := .leaf
noncomputable def F_network_ofV (a0 : El Y3) (a1 : El Y3) (a2 : El Y38) : Option (El Y88) := evalF F_network_ofE F_network_ofB Try.f35.results F_network_ofH F_network_ofA F_network_ofR (fun y => y.2.1) (a0, a1, a2, ())
theorem F_network_of_eq (a0 : El Y3) (a1 : El Y3) (a2 : El Y38) : F_network_ofV a0 a1 a2 = F_network_of a0 a1 a2 := by kernel_rfl
theorem F_network_of_ok : FnOK Try.prog 35 F_network_ofS := evalF_ok (E := F_network_ofE) (fn := Try.f35) (body := F_network_ofB) (hint := F_network_ofH) (pack := fun y => y.2.1) hmix (typesOk_of tab_ok rfl rfl rfl) (specsOk_of (m := []) trivial rfl) (by kernel_rfl) (by kernel_rfl) (by kernel_rfl) (by kernel_rfl) (by kernel_rfl) (by kernel_rfl) (fun y => rfl)
  (fun x z h => (F_network_of_eq x.1 x.2.1 x.2.2.1).trans h)
noncomputable def F_call_one : (El Y62) → (El Y3) → (El Y3) → (El Y3) → (El Y3) → Option (El Y38) := fun a0 a1 a2 a3 a4 =>
  Option.bind (Tr.idx a0 a1) fun x0 =>
    Option.bind (bif Decidable.decide (x0.fst < (0 : Int)) then Option.some Bool.true else Option.some (Decidable.decide (a2 ≤ x0.fst))) fun x1 =>
      bif x1 then Option.some (9 : Int)
      else
        Option.bind
          (bif Decidable.decide ((0 : Int) < a1) then Option.bind (Tr.idx a0 (Go.IntKind.wrap Go.IntKind.i64 (a1 - (1 : Int)))) fun x2 => Option.some (Decidable.decide (x2.fst = x0.fst))
          else Option.some Bool.false)
          fun x3 =>
          bif x3 then Option.some (13 : Int)
          else
            Option.bind
              (bif Decidable.decide (x0.snd.fst < a3) then Option.some Bool.true
              else
                bif Decidable.decide (x0.snd.snd.fst < x0.snd.fst) then Option.some Bool.true
                else
                  bif Decidable.decide (a4 < x0.snd.snd.fst) then Option.some Bool.true
                  else
                    bif Decidable.decide ((0 : Int) < a1) then
                      Option.bind (Tr.idx a0 (Go.IntKind.wrap Go.IntKind.i64 (a1 - (1 : Int)))) fun x4 => Option.some (Decidable.decide (x0.snd.fst < x4.snd.snd.fst))
                    else Option.some Bool.false)
              fun x5 => bif x5 then Option.some (10 : Int) else Option.some (0 : Int)
abbrev F_call_oneA : Pats := (.cons (.pd Y62) (.cons (.pd Y3) (.cons (.pd Y3) (.cons (.pd Y3) (.cons (.pd Y3) .nil)))))
abbrev F_call_oneR : Pats := (.cons (.pd Y38) .nil)
noncomputable def F_call_oneS : Tr.Spec := { args := F_call_oneA, res := F_call_oneR, fns := [], α := El Y38, f := fun x => F_call_one x.1 x.2.1 x.2.2.1 x.2.2.2.1 x.2.2.2.2.1, unp := fun z => (((), (), (), (), (), ()), (z, ())) }
noncomputable def F_call_oneE : Env := { ty := fun n => tyTab.lookup n, mty := fun n => mapTab.lookup n, pk := fun n => (pkTab.lookup n).getD 0, rw := fun n => [].contains n, specs := fun n => (([] : List (Nat × List Tr.Spec)).lookup n).getD [], nt := 70, ks := [] }
noncomputable def F_call_oneB : Code := match Try.f68.body with | some b => b | none => .skip
def F_call_oneH : Hint := (.seq .leaf (.seq .leaf (.seq (.seq (.reg [(24, Y4)]) .leaf) (.seq (.seq (.reg [(37, Y4)]) .leaf) (.seq (.seq (.reg [(69, Y4)]) .leaf) .leaf)))))
noncomputable def F_call_oneV (a0 : El Y62) (a1 : El Y3) (a2 : El Y3) (a3 : El Y3) (a4 : El Y3) : Option (El Y38) := evalF F_call_oneE F_call_oneB Try.f68.results F_call_oneH F_call_oneA F_call_oneR (fun y => y.2.1) (a0, a1, a2, a3, a4, ())
theorem F_call_one_eq (a0 : El Y62) (a1 : El Y3) (a2 : El Y3) (a3 : El Y3) (a4 : El Y3) : F_call_oneV a0 a1 a2 a3 a4 = F_call_one a0 a1 a2 a3 a4 := by kernel_rfl
theorem F_call_one_ok : FnOK Try.prog 68 F_call_oneS := evalF_ok (E := F_call_oneE) (fn := Try.f68) (body := F_call_oneB) (hint := F_call_oneH) (pack := fun y => y.2.1) hmix (typesOk_of tab_ok rfl rfl rfl) (specsOk_of (m := []) trivial rfl) (by kernel_rfl) (by kernel_rfl) (by kernel_rfl) (by kernel_rfl) (by kernel_rfl) (by kernel_rfl) (fun y => rfl)
  (fun x z h => (F_call_one_eq x.1 x.2.1 x.2.2.1 x.2.2.2.1 x.2.2.2.2.1).trans h)
noncomputable def F_call_Check : (El Y62) → (El Y3) → (El Y3) → (El Y3) → Option (El Y3 × El Y38) := fun a0 a1 a2 a3 =>
  Option.bind (bif Decidable.decide ((↑(List.length a0) : Int) < (2 : Int)) then Option.some Bool.true else Option.some (Decidable.decide ((32 : Int) < (↑(List.length a0) : Int)))) fun x0 =>
    bif x0 then Option.some ((0 : Int), (5 : Int))
    else
      Option.bind
        (Tr.run
          (fun s1 =>
            bif Decidable.decide (s1 < (↑(List.length a0) : Int)) then
              Option.bind (F_call_one a0 s1 a1 a2 a3) fun x2 =>
                bif !Decidable.decide (x2 = (0 : Int)) then Option.some (Sum.inr (Sum.inr (s1, x2))) else Option.some (Sum.inl (Go.IntKind.wrap Go.IntKind.i64 (s1 + (1 : Int))))
            else Option.some (Sum.inr (Sum.inl ())))
          (0 : Int))
        fun x3 => Sum.elim (fun _ => Option.some ((0 : Int), (0 : Int))) (fun y5 => Option.some (y5.fst, y5.snd)) x3
abbrev F_call_CheckA : Pats := (.cons (.pd Y62) (.cons (.pd Y3) (.cons (.pd Y3) (.cons (.pd Y3) .nil))))
abbrev F_call_CheckR : Pats := (.cons (.pd Y3) (.cons (.pd Y38) .nil))
noncomputable def F_call_CheckS : Tr.Spec := { args := F_call_CheckA, res := F_call_CheckR, fns := [], α := El Y3 × El Y38, f := fun x => F_call_Check x.1 x.2.1 x.2.2.1 x.2.2.2.1, unp := fun z => (((), (), (), (), ()), (z.1, z.2, ())) }
noncomputable def F_call_CheckE : Env := { ty := fun n => tyTab.lookup n, mty := fun n => mapTab.lookup n, pk := fun n => (pkTab.lookup n).getD 0, rw := fun n => [].contains n, specs := fun n => (([(68, [F_call_oneS])] : List (Nat × List Tr.Spec)).lookup n).getD [], nt := 36, ks := [] }
noncomputable def F_call_CheckB : Code := match Try.f54.body with | some b => b | none => .skip
def F_call_CheckH : Hint := (.seq .leaf (.seq (.seq (.reg [(19, Y4)]) .leaf) (.seq (.seq .leaf (.lp ⟨[(22, (.pd Y3))], [], [0, 1, 2, 3, 21]⟩ [((.exit 0), ⟨[], [], []⟩), (.ret, ⟨[(8, (.pd Y3)), (9, (.pd Y38))], [], []⟩)] .leaf)) .leaf)))
noncomputable def F_call_CheckV (a0 : El Y62) (a1 : El Y3) (a2 : El Y3) (a3 : El Y3) : Option (El Y3 × El Y38) := evalF F_call_CheckE F_call_CheckB Try.f54.results F_call_CheckH F_call_CheckA F_call_CheckR (fun y => (y.2.1, y.2.2.1)) (a0, a1, a2, a3, ())
theorem F_call_Check_eq (a0 : El Y62) (a1 : El Y3) (a2 : El Y3) (a3 : El Y3) : F_call_CheckV a0 a1 a2 a3 = F_call_Check a0 a1 a2 a3 := by kernel_rfl
theorem F_call_Check_ok : FnOK Try.prog 54 F_call_CheckS := evalF_ok (E := F_call_CheckE) (fn := Try.f54) (body := F_call_CheckB) (hint := F_call_CheckH) (pack := fun y => (y.2.1, y.2.2.1)) hmix (typesOk_of tab_ok rfl rfl rfl) (specsOk_of (m := [(68, [F_call_oneS])]) ⟨⟨F_call_one_ok, trivial⟩, trivial⟩ rfl) (by kernel_rfl) (by kernel_rfl) (by kernel_rfl) (by kernel_rfl) (by kernel_rfl) (by kernel_rfl) (fun y => rfl)
  (fun x z h => (F_call_Check_eq x.1 x.2.1 x.2.2.1 x.2.2.2.1).trans h)
noncomputable def F_network_checkRuns : (El Y31) → Option (El Y88) := fun a0 =>
  bif Decidable.decide ((1024 : Int) < (↑(List.length a0.snd.snd.fst) : Int)) then Option.bind (F_network_of (2 : Int) (0 : Int) (5 : Int)) fun x0 => Option.some x0
  else
    Option.bind
      (Tr.run
        (fun s1 =>
          bif Decidable.decide (s1.snd.snd < (↑(List.length a0.snd.snd.fst) : Int)) then
            Option.bind (Tr.idx a0.snd.snd.fst s1.snd.snd) fun x2 =>
              Option.bind (F_ident_Valid x2.snd.snd.snd.fst) fun x3 =>
                bif !x3 then Option.bind (F_network_of (2 : Int) s1.snd.snd (12 : Int)) fun x4 => Option.some (Sum.inr (Sum.inr x4))
                else
                  Option.bind (bif Decidable.decide (x2.fst < (-1 : Int)) then Option.some Bool.true else Option.some (Decidable.decide (x2.snd.snd.fst < (0 : Int)))) fun x5 =>
                    bif x5 then Option.bind (F_network_of (2 : Int) s1.snd.snd (2 : Int)) fun x6 => Option.some (Sum.inr (Sum.inr x6))
                    else
                      Option.bind (bif Decidable.decide (x2.snd.fst < (0 : Int)) then Option.some Bool.true else Option.some (Decidable.decide ((36524 : Int) < x2.snd.fst))) fun x7 =>
                        bif x7 then Option.bind (F_network_of (2 : Int) s1.snd.snd (11 : Int)) fun x8 => Option.some (Sum.inr (Sum.inr x8))
                        else
                          Option.bind
                            (bif Decidable.decide (x2.snd.snd.snd.snd.fst < (0 : Int)) then Option.some Bool.true
                            else Option.some (Decidable.decide ((↑(List.length a0.snd.fst) : Int) ≤ x2.snd.snd.snd.snd.fst)))
                            fun x9 =>
                            bif x9 then Option.bind (F_network_of (2 : Int) s1.snd.snd (9 : Int)) fun x10 => Option.some (Sum.inr (Sum.inr x10))
                            else
                              Option.bind (F_call_Check x2.snd.snd.snd.snd.snd.snd.snd.fst (↑(List.length a0.fst) : Int) (0 : Int) (3155932800 : Int)) fun x11 =>
                                bif !Decidable.decide (x11.snd = (0 : Int)) then Option.bind (F_network_of (2 : Int) s1.snd.snd x11.snd) fun x12 => Option.some (Sum.inr (Sum.inr x12))
                                else
                                  bif Option.getD (Tr.amGet (Tr.keyEq Y113) (x2.snd.snd.snd.fst, x2.snd.fst, x2.snd.snd.fst, ()) s1.snd.fst) (Bool.false) then
                                    Option.bind (F_network_of (2 : Int) s1.snd.snd (6 : Int)) fun x13 => Option.some (Sum.inr (Sum.inr x13))
                                  else
                                    Option.some
                                      (Sum.inl
                                        (s1.fst, Tr.amSet (Tr.keyEq Y113) (x2.snd.snd.snd.fst, x2.snd.fst, x2.snd.snd.fst, ()) Bool.true s1.snd.fst,
                                          Go.IntKind.wrap Go.IntKind.i64 (s1.snd.snd + (1 : Int))))
          else Option.some (Sum.inr (Sum.inl s1.fst)))
        (((0 : Int), (0 : Int), (0 : Int), ()), [], (0 : Int)))
      fun x14 => Sum.elim (fun _ => Option.some ((0 : Int), (0 : Int), (0 : Int), ())) (fun y16 => Option.some y16) x14
abbrev F_network_checkRunsA : Pats := (.cons (.pd Y31) .nil)
abbrev F_network_checkRunsR : Pats := (.cons (.pd Y88) .nil)
noncomputable def F_network_checkRunsS : Tr.Spec := { args := F_network_checkRunsA, res := F_network_checkRunsR, fns := [], α := El Y88, f := fun x => F_network_checkRuns x.1, unp := fun z => (((), ()), (z, ())) }
noncomputable def F_network_checkRunsE : Env := { ty := fun n => tyTab.lookup n, mty := fun n => mapTab.lookup n, pk := fun n => (pkTab.lookup n).getD 0, rw := fun n => [].contains n, specs := fun n => (([(35, [F_network_ofS]), (52, [F_ident_ValidS]), (54, [F_call_CheckS])] : List (Nat × List Tr.Spec)).lookup n).getD [], nt := 96, ks := [] }
noncomputable def F_network_checkRunsB : Code := match Try.f36.body with | some b => b | none => .skip
def F_network_checkRunsH : Hint := (.seq .leaf (.seq .leaf (.seq .leaf (.seq (.seq .leaf (.lp ⟨[(2, (.var Y88 (.pd Y88))), (3, (.map Y113 Y4)), (18, (.pd Y3))], [], [1, 16, 17]⟩ [((.exit 0), ⟨[(2, (.var Y88 (.pd Y88)))], [], []⟩), (.ret, ⟨[(2, (.var Y88 (.pd Y88)))], [], []⟩)] (.seq .leaf (.seq .leaf (.seq (.seq .leaf (.seq (.seq .leaf (.cnd none .leaf (.seq (.reg [(30, Y4)]) (.cnd none .leaf (.seq (.reg [(41, Y4)]) (.cnd none .leaf (.seq (.reg [(52, Y4)]) .leaf))))))) .leaf)) .leaf))))) .leaf))))
noncomputable def F_network_checkRunsV (a0 : El Y31) : Option (El Y88) := evalF F_network_checkRunsE F_network_checkRunsB Try.f36.results F_network_checkRunsH F_network_checkRunsA F_network_checkRunsR (fun y => y.2.1) (a0, ())
theorem F_network_checkRuns_eq (a0 : El Y31) : F_network_checkRunsV a0 = F_network_checkRuns a0 := by kernel_rfl
theorem F_network_checkRuns_ok : FnOK Try.prog 36 F_network_checkRunsS := evalF_ok (E := F_network_checkRunsE) (fn := Try.f36) (body := F_network_checkRunsB) (hint := F_network_checkRunsH) (pack := fun y => y.2.1) hmix (typesOk_of tab_ok rfl rfl rfl) (specsOk_of (m := [(35, [F_network_ofS]), (52, [F_ident_ValidS]), (54, [F_call_CheckS])]) ⟨⟨F_network_of_ok, trivial⟩, ⟨F_ident_Valid_ok, trivial⟩, ⟨F_call_Check_ok, trivial⟩, trivial⟩ rfl) (by kernel_rfl) (by kernel_rfl) (by kernel_rfl) (by kernel_rfl) (by kernel_rfl) (by kernel_rfl) (fun y => rfl)
  (fun x z h => (F_network_checkRuns_eq x.1).trans h)
noncomputable def F_network_within : (El Y3) → (El Y3) → Option (El Y4) := fun a0 a1 => Option.bind (bif Decidable.decide ((0 : Int) ≤ a0) then Option.some (Decidable.decide (a0 < a1)) else Option.some Bool.false) fun x0 => Option.some x0
abbrev F_network_withinA : Pats := (.cons (.pd Y3) (.cons (.pd Y3) .nil))
abbrev F_network_withinR : Pats := (.cons (.pd Y4) .nil)
noncomputable def F_network_withinS : Tr.Spec := { args := F_network_withinA, res := F_network_withinR, fns := [], α := El Y4, f := fun x => F_network_within x.1 x.2.1, unp := fun z => (((), (), ()), (z, ())) }
noncomputable def F_network_withinE : Env := { ty := fun n => tyTab.lookup n, mty := fun n => mapTab.lookup n, pk := fun n => (pkTab.lookup n).getD 0, rw := fun n => [].contains n, specs := fun n => (([] : List (Nat × List Tr.Spec)).lookup n).getD [], nt := 12, ks := [] }
noncomputable def F_network_withinB : Code := match Try.f55.body with | some b => b | none => .skip
def F_network_withinH : Hint := (.seq .leaf (.seq (.reg [(4, Y4)]) .leaf))
noncomputable def F_network_withinV (a0 : El Y3) (a1 : El Y3) : Option (El Y4) := evalF F_network_withinE F_network_withinB Try.f55.results F_network_withinH F_network_withinA F_network_withinR (fun y => y.2.1) (a0, a1, ())
theorem F_network_within_eq (a0 : El Y3) (a1 : El Y3) : F_network_withinV a0 a1 = F_network_within a0 a1 := by kernel_rfl
theorem F_network_within_ok : FnOK Try.prog 55 F_network_withinS := evalF_ok (E := F_network_withinE) (fn := Try.f55) (body := F_network_withinB) (hint := F_network_withinH) (pack := fun y => y.2.1) hmix (typesOk_of tab_ok rfl rfl rfl) (specsOk_of (m := []) trivial rfl) (by kernel_rfl) (by kernel_rfl) (by kernel_rfl) (by kernel_rfl) (by kernel_rfl) (by kernel_rfl) (fun y => rfl)
  (fun x z h => (F_network_within_eq x.1 x.2.1).trans h)
noncomputable def F_network_leads : (List (El Y3 × El Y3)) → (El Y3) → (El Y3) → Option (List (El Y3 × El Y3) × El Y4) := fun a0 a1 a2 =>
  Option.bind
    (Tr.run
      (fun s0 =>
        bif s0.snd then
          bif Decidable.decide (s0.fst = a2) then Option.some (Sum.inr (Sum.inr Bool.true))
          else Option.some (Sum.inl (Option.getD (Tr.amGet (Tr.keyEq Y3) s0.fst a0) ((0 : Int)), Option.isSome (Tr.amGet (Tr.keyEq Y3) s0.fst a0)))
        else Option.some (Sum.inr (Sum.inl ())))
      (Option.getD (Tr.amGet (Tr.keyEq Y3) a1 a0) ((0 : Int)), Option.isSome (Tr.amGet (Tr.keyEq Y3) a1 a0)))
    fun x1 => Sum.elim (fun _ => Option.some (a0, Bool.false)) (fun y3 => Option.some (a0, y3)) x1
abbrev F_network_leadsA : Pats := (.cons (.map Y3 Y3) (.cons (.pd Y3) (.cons (.pd Y3) .nil)))
abbrev F_network_leadsR : Pats := (.cons (.pd Y4) .nil)
noncomputable def F_network_leadsS : Tr.Spec := { args := F_network_leadsA, res := F_network_leadsR, fns := [], α := List (El Y3 × El Y3) × El Y4, f := fun x => F_network_leads x.1 x.2.1 x.2.2.1, unp := fun z => ((z.1, (), (), ()), (z.2, ())) }
noncomputable def F_network_leadsE : Env := { ty := fun n => tyTab.lookup n, mty := fun n => mapTab.lookup n, pk := fun n => (pkTab.lookup n).getD 0, rw := fun n => [].contains n, specs := fun n => (([] : List (Nat × List Tr.Spec)).lookup n).getD [], nt := 25, ks := [] }
noncomputable def F_network_leadsB : Code := match Try.f56.body with | some b => b | none => .skip
def F_network_leadsH : Hint := (.seq .leaf (.seq (.seq .leaf (.lp ⟨[(7, (.pd Y3)), (8, (.pd Y4))], [], [0, 2]⟩ [((.exit 0), ⟨[], [], [0]⟩), (.ret, ⟨[(6, (.pd Y4))], [], [0]⟩)] .leaf)) .leaf))
noncomputable def F_network_leadsV (a0 : List (El Y3 × El Y3)) (a1 : El Y3) (a2 : El Y3) : Option (List (El Y3 × El Y3) × El Y4) := evalF F_network_leadsE F_network_leadsB Try.f56.results F_network_leadsH F_network_leadsA F_network_leadsR (fun y => (y.1.1, y.2.1)) (a0, a1, a2, ())
theorem F_network_leads_eq (a0 : List (El Y3 × El Y3)) (a1 : El Y3) (a2 : El Y3) : F_network_leadsV a0 a1 a2 = F_network_leads a0 a1 a2 := by kernel_rfl
theorem F_network_leads_ok : FnOK Try.prog 56 F_network_leadsS := evalF_ok (E := F_network_leadsE) (fn := Try.f56) (body := F_network_leadsB) (hint := F_network_leadsH) (pack := fun y => (y.1.1, y.2.1)) hmix (typesOk_of tab_ok rfl rfl rfl) (specsOk_of (m := []) trivial rfl) (by kernel_rfl) (by kernel_rfl) (by kernel_rfl) (by kernel_rfl) (by kernel_rfl) (by kernel_rfl) (fun y => rfl)
  (fun x z h => (F_network_leads_eq x.1 x.2.1 x.2.2.1).trans h)
noncomputable def F_network_checkLinks : (El Y31) → Option (El Y88) := fun a0 =>
  bif Decidable.decide ((1024 : Int) < (↑(List.length a0.snd.snd.snd.fst) : Int)) then Option.bind (F_network_of (3 : Int) (0 : Int) (5 : Int)) fun x0 => Option.some x0
  else
    Option.bind
      (Tr.run
        (fun s1 =>
          bif Decidable.decide (s1.snd.snd.snd.snd < (↑(List.length a0.snd.snd.snd.fst) : Int)) then
            Option.bind (Tr.idx a0.snd.snd.snd.fst s1.snd.snd.snd.snd) fun x2 =>
              Option.bind
                (Option.bind (F_network_within x2.fst (↑(List.length a0.snd.snd.fst) : Int)) fun x3 =>
                  bif !x3 then Option.some Bool.true
                  else
                    Option.bind (F_network_within x2.snd.snd.fst (↑(List.length a0.snd.snd.fst) : Int)) fun x4 =>
                      bif !x4 then Option.some Bool.true else Option.some (Decidable.decide (x2.fst = x2.snd.snd.fst)))
                fun x5 =>
                bif x5 then Option.bind (F_network_of (3 : Int) s1.snd.snd.snd.snd (9 : Int)) fun x6 => Option.some (Sum.inr (Sum.inr x6))
                else
                  Option.bind (Tr.idx a0.snd.snd.fst x2.fst) fun x7 =>
                    Option.bind (Tr.idx a0.snd.snd.fst x2.snd.snd.fst) fun x8 =>
                      Option.bind
                        (Option.bind (F_network_within x2.snd.fst (↑(List.length x7.snd.snd.snd.snd.snd.snd.snd.fst) : Int)) fun x9 =>
                          bif !x9 then Option.some Bool.true
                          else Option.bind (F_network_within x2.snd.snd.snd.fst (↑(List.length x8.snd.snd.snd.snd.snd.snd.snd.fst) : Int)) fun x10 => Option.some !x10)
                        fun x11 =>
                        bif x11 then Option.bind (F_network_of (3 : Int) s1.snd.snd.snd.snd (9 : Int)) fun x12 => Option.some (Sum.inr (Sum.inr x12))
                        else
                          Option.bind (Tr.idx x7.snd.snd.snd.snd.snd.snd.snd.fst x2.snd.fst) fun x13 =>
                            Option.bind (Tr.idx x8.snd.snd.snd.snd.snd.snd.snd.fst x2.snd.snd.snd.fst) fun x14 =>
                              bif !Decidable.decide (x13.fst = x14.fst) then Option.bind (F_network_of (3 : Int) s1.snd.snd.snd.snd (13 : Int)) fun x15 => Option.some (Sum.inr (Sum.inr x15))
                              else
                                bif x2.snd.snd.snd.snd.fst then
                                  bif !Decidable.decide (Go.IntKind.wrap Go.IntKind.i64 (x2.snd.fst + (1 : Int)) = (↑(List.length x7.snd.snd.snd.snd.snd.snd.snd.fst) : Int)) then
                                    Option.bind (F_network_of (3 : Int) s1.snd.snd.snd.snd (19 : Int)) fun x16 => Option.some (Sum.inr (Sum.inr x16))
                                  else
                                    bif !Decidable.decide (x2.snd.snd.snd.fst = (0 : Int)) then
                                      Option.bind (F_network_of (3 : Int) s1.snd.snd.snd.snd (19 : Int)) fun x17 => Option.some (Sum.inr (Sum.inr x17))
                                    else
                                      bif Option.isSome (Tr.amGet (Tr.keyEq Y3) x2.fst s1.snd.fst) then
                                        Option.bind (F_network_of (3 : Int) s1.snd.snd.snd.snd (19 : Int)) fun x18 => Option.some (Sum.inr (Sum.inr x18))
                                      else
                                        bif Option.getD (Tr.amGet (Tr.keyEq Y3) x2.snd.snd.fst s1.snd.snd.fst) (Bool.false) then
                                          Option.bind (F_network_of (3 : Int) s1.snd.snd.snd.snd (19 : Int)) fun x19 => Option.some (Sum.inr (Sum.inr x19))
                                        else
                                          Option.bind (F_network_leads s1.snd.fst x2.snd.snd.fst x2.fst) fun x20 =>
                                            bif x20.snd then Option.bind (F_network_of (3 : Int) s1.snd.snd.snd.snd (19 : Int)) fun x21 => Option.some (Sum.inr (Sum.inr x21))
                                            else
                                              bif Option.getD (Tr.amGet (Tr.keyEq Y120) [x2.fst, x2.snd.fst, x2.snd.snd.fst, x2.snd.snd.snd.fst] s1.snd.snd.snd.fst) (Bool.false) then
                                                Option.bind (F_network_of (3 : Int) s1.snd.snd.snd.snd (6 : Int)) fun x22 => Option.some (Sum.inr (Sum.inr x22))
                                              else
                                                bif x2.snd.snd.snd.snd.fst then
                                                  Option.some
                                                    (Sum.inl
                                                      (s1.fst, Tr.amSet (Tr.keyEq Y3) x2.fst x2.snd.snd.fst x20.fst, Tr.amSet (Tr.keyEq Y3) x2.snd.snd.fst Bool.true s1.snd.snd.fst,
                                                        Tr.amSet (Tr.keyEq Y120) [x2.fst, x2.snd.fst, x2.snd.snd.fst, x2.snd.snd.snd.fst] Bool.true s1.snd.snd.snd.fst,
                                                        Go.IntKind.wrap Go.IntKind.i64 (s1.snd.snd.snd.snd + (1 : Int))))
                                                else
                                                  Option.some
                                                    (Sum.inl
                                                      (s1.fst, x20.fst, s1.snd.snd.fst, Tr.amSet (Tr.keyEq Y120) [x2.fst, x2.snd.fst, x2.snd.snd.fst, x2.snd.snd.snd.fst] Bool.true s1.snd.snd.snd.fst,
                                                        Go.IntKind.wrap Go.IntKind.i64 (s1.snd.snd.snd.snd + (1 : Int))))
                                else
                                  bif Option.getD (Tr.amGet (Tr.keyEq Y120) [x2.fst, x2.snd.fst, x2.snd.snd.fst, x2.snd.snd.snd.fst] s1.snd.snd.snd.fst) (Bool.false) then
                                    Option.bind (F_network_of (3 : Int) s1.snd.snd.snd.snd (6 : Int)) fun x23 => Option.some (Sum.inr (Sum.inr x23))
                                  else
                                    bif x2.snd.snd.snd.snd.fst then
                                      Option.some
                                        (Sum.inl
                                          (s1.fst, Tr.amSet (Tr.keyEq Y3) x2.fst x2.snd.snd.fst s1.snd.fst, Tr.amSet (Tr.keyEq Y3) x2.snd.snd.fst Bool.true s1.snd.snd.fst,
                                            Tr.amSet (Tr.keyEq Y120) [x2.fst, x2.snd.fst, x2.snd.snd.fst, x2.snd.snd.snd.fst] Bool.true s1.snd.snd.snd.fst,
                                            Go.IntKind.wrap Go.IntKind.i64 (s1.snd.snd.snd.snd + (1 : Int))))
                                    else
                                      Option.some
                                        (Sum.inl
                                          (s1.fst, s1.snd.fst, s1.snd.snd.fst, Tr.amSet (Tr.keyEq Y120) [x2.fst, x2.snd.fst, x2.snd.snd.fst, x2.snd.snd.snd.fst] Bool.true s1.snd.snd.snd.fst,
                                            Go.IntKind.wrap Go.IntKind.i64 (s1.snd.snd.snd.snd + (1 : Int))))
          else Option.some (Sum.inr (Sum.inl s1.fst)))
        (((0 : Int), (0 : Int), (0 : Int), ()), [], [], [], (0 : Int)))
      fun x24 => Sum.elim (fun _ => Option.some ((0 : Int), (0 : Int), (0 : Int), ())) (fun y26 => Option.some y26) x24
abbrev F_network_checkLinksA : Pats := (.cons (.pd Y31) .nil)
abbrev F_network_checkLinksR : Pats := (.cons (.pd Y88) .nil)
noncomputable def F_network_checkLinksS : Tr.Spec := { args := F_network_checkLinksA, res := F_network_checkLinksR, fns := [], α := El Y88, f := fun x => F_network_checkLinks x.1, unp := fun z => (((), ()), (z, ())) }
noncomputable def F_network_checkLinksE : Env := { ty := fun n => tyTab.lookup n, mty := fun n => mapTab.lookup n, pk := fun n => (pkTab.lookup n).getD 0, rw := fun n => [].contains n, specs := fun n => (([(35, [F_network_ofS]), (55, [F_network_withinS]), (56, [F_network_leadsS])] : List (Nat × List Tr.Spec)).lookup n).getD [], nt := 171, ks := [] }
noncomputable def F_network_checkLinksB : Code := match Try.f37.body with | some b => b | none => .skip
def F_network_checkLinksH : Hint := (.seq .leaf (.seq .leaf (.seq .leaf (.seq .leaf (.seq (.seq .leaf (.lp ⟨[(2, (.var Y88 (.pd Y88))), (3, (.map Y3 Y3)), (4, (.map Y3 Y4)), (5, (.map Y120 Y4)), (24, (.pd Y3))], [], [1, 22, 23]⟩ [((.exit 0), ⟨[(2, (.var Y88 (.pd Y88)))], [], []⟩), (.ret, ⟨[(2, (.var Y88 (.pd Y88)))], [], []⟩)] (.seq .leaf (.seq .leaf (.seq (.seq .leaf (.seq (.seq (.reg [(51, Y4)]) .leaf) (.seq .leaf (.seq (.seq (.reg [(81, Y4)]) .leaf) .leaf)))) .leaf))))) .leaf)))))
noncomputable def F_network_checkLinksV (a0 : El Y31) : Option (El Y88) := evalF F_network_checkLinksE F_network_checkLinksB Try.f37.results F_network_checkLinksH F_network_checkLinksA F_network_checkLinksR (fun y => y.2.1) (a0, ())
theorem F_network_checkLinks_eq (a0 : El Y31) : F_network_checkLinksV a0 = F_network_checkLinks a0 := by kernel_rfl
theorem F_network_checkLinks_ok : FnOK Try.prog 37 F_network_checkLinksS := evalF_ok (E := F_network_checkLinksE) (fn := Try.f37) (body := F_network_checkLinksB) (hint := F_network_checkLinksH) (pack := fun y => y.2.1) hmix (typesOk_of tab_ok rfl rfl rfl) (specsOk_of (m := [(35, [F_network_ofS]), (55, [F_network_withinS]), (56, [F_network_leadsS])]) ⟨⟨F_network_of_ok, trivial⟩, ⟨F_network_within_ok, trivial⟩, ⟨F_network_leads_ok, trivial⟩, trivial⟩ rfl) (by kernel_rfl) (by kernel_rfl) (by kernel_rfl) (by kernel_rfl) (by kernel_rfl) (by kernel_rfl) (fun y => rfl)
  (fun x z h => (F_network_checkLinks_eq x.1).trans h)
noncomputable def F_product_within : (El Y3) → (El Y3) → (El Y3) → Option (El Y4) := fun a0 a1 a2 => Option.bind (bif Decidable.decide (a1 ≤ a0) then Option.some (Decidable.decide (a0 ≤ a2)) else Option.some Bool.false) fun x0 => Option.some x0
abbrev F_product_withinA : Pats := (.cons (.pd Y3) (.cons (.pd Y3) (.cons (.pd Y3) .nil)))
abbrev F_product_withinR : Pats := (.cons (.pd Y4) .nil)
noncomputable def F_product_withinS : Tr.Spec := { args := F_product_withinA, res := F_product_withinR, fns := [], α := El Y4, f := fun x => F_product_within x.1 x.2.1 x.2.2.1, unp := fun z => (((), (), (), ()), (z, ())) }
noncomputable def F_product_withinE : Env := { ty := fun n => tyTab.lookup n, mty := fun n => mapTab.lookup n, pk := fun n => (pkTab.lookup n).getD 0, rw := fun n => [].contains n, specs := fun n => (([] : List (Nat × List Tr.Spec)).lookup n).getD [], nt := 15, ks := [] }
noncomputable def F_product_withinB : Code := match Try.f57.body with | some b => b | none => .skip
def F_product_withinH : Hint := (.seq .leaf (.seq (.reg [(6, Y4)]) .leaf))
noncomputable def F_product_withinV (a0 : El Y3) (a1 : El Y3) (a2 : El Y3) : Option (El Y4) := evalF F_product_withinE F_product_withinB Try.f57.results F_product_withinH F_product_withinA F_product_withinR (fun y => y.2.1) (a0, a1, a2, ())
theorem F_product_within_eq (a0 : El Y3) (a1 : El Y3) (a2 : El Y3) : F_product_withinV a0 a1 a2 = F_product_within a0 a1 a2 := by kernel_rfl
theorem F_product_within_ok : FnOK Try.prog 57 F_product_withinS := evalF_ok (E := F_product_withinE) (fn := Try.f57) (body := F_product_withinB) (hint := F_product_withinH) (pack := fun y => y.2.1) hmix (typesOk_of tab_ok rfl rfl rfl) (specsOk_of (m := []) trivial rfl) (by kernel_rfl) (by kernel_rfl) (by kernel_rfl) (by kernel_rfl) (by kernel_rfl) (by kernel_rfl) (fun y => rfl)
  (fun x z h => (F_product_within_eq x.1 x.2.1 x.2.2.1).trans h)
noncomputable def F_product_Check : (El Y29) → Option (El Y3 × El Y38) := fun a0 =>
  Option.bind
    (Option.bind (F_product_within a0.snd.fst (0 : Int) (1000000 : Int)) fun x0 =>
      bif !x0 then Option.some Bool.true
      else
        Option.bind (F_product_within a0.snd.snd.fst (0 : Int) (86400 : Int)) fun x1 =>
          bif !x1 then Option.some Bool.true else Option.bind (F_product_within a0.snd.snd.snd.fst (0 : Int) (1000000 : Int)) fun x2 => Option.some !x2)
    fun x3 =>
    bif x3 then Option.some ((-1 : Int), (2 : Int))
    else
      bif Decidable.decide ((16 : Int) < (↑(List.length a0.fst) : Int)) then Option.some ((0 : Int), (5 : Int))
      else
        Option.bind
          (Tr.run
            (fun s4 =>
              bif Decidable.decide (s4.snd < (↑(List.length a0.fst) : Int)) then
                Option.bind (Tr.idx a0.fst s4.snd) fun x5 =>
                  Option.bind (F_ident_Valid x5.fst) fun x6 =>
                    bif !x6 then Option.some (Sum.inr (Sum.inr (s4.snd, (12 : Int))))
                    else
                      bif Option.getD (Tr.amGet (Tr.keyEq Y9) x5.fst s4.fst) (Bool.false) then Option.some (Sum.inr (Sum.inr (s4.snd, (6 : Int))))
                      else
                        Option.bind
                          (Option.bind (F_product_within x5.snd.fst (0 : Int) (1000000 : Int)) fun x7 =>
                            bif !x7 then Option.some Bool.true
                            else
                              Option.bind (F_product_within x5.snd.snd.fst (1 : Int) (8 : Int)) fun x8 =>
                                bif !x8 then Option.some Bool.true
                                else
                                  Option.bind (F_product_within x5.snd.snd.snd.fst (1 : Int) (16 : Int)) fun x9 =>
                                    bif !x9 then Option.some Bool.true
                                    else
                                      Option.bind (F_product_within x5.snd.snd.snd.snd.fst (0 : Int) (86400 : Int)) fun x10 =>
                                        bif !x10 then Option.some Bool.true else Option.bind (F_product_within x5.snd.snd.snd.snd.snd.fst (1 : Int) (255 : Int)) fun x11 => Option.some !x11)
                          fun x12 =>
                          bif x12 then Option.some (Sum.inr (Sum.inr (s4.snd, (2 : Int))))
                          else Option.some (Sum.inl (Tr.amSet (Tr.keyEq Y9) x5.fst Bool.true s4.fst, Go.IntKind.wrap Go.IntKind.i64 (s4.snd + (1 : Int))))
              else Option.some (Sum.inr (Sum.inl ())))
            ([], (0 : Int)))
          fun x13 => Sum.elim (fun _ => Option.some ((0 : Int), (0 : Int))) (fun y15 => Option.some (y15.fst, y15.snd)) x13
abbrev F_product_CheckA : Pats := (.cons (.pd Y29) .nil)
abbrev F_product_CheckR : Pats := (.cons (.pd Y3) (.cons (.pd Y38) .nil))
noncomputable def F_product_CheckS : Tr.Spec := { args := F_product_CheckA, res := F_product_CheckR, fns := [], α := El Y3 × El Y38, f := fun x => F_product_Check x.1, unp := fun z => (((), ()), (z.1, z.2, ())) }
noncomputable def F_product_CheckE : Env := { ty := fun n => tyTab.lookup n, mty := fun n => mapTab.lookup n, pk := fun n => (pkTab.lookup n).getD 0, rw := fun n => [].contains n, specs := fun n => (([(52, [F_ident_ValidS]), (57, [F_product_withinS])] : List (Nat × List Tr.Spec)).lookup n).getD [], nt := 79, ks := [] }
noncomputable def F_product_CheckB : Code := match Try.f38.body with | some b => b | none => .skip
def F_product_CheckH : Hint := (.seq .leaf (.seq (.seq (.reg [(22, Y4)]) .leaf) (.seq .leaf (.seq .leaf (.seq (.seq .leaf (.lp ⟨[(4, (.map Y9 Y4)), (31, (.pd Y3))], [], [29, 30]⟩ [((.exit 0), ⟨[], [], []⟩), (.ret, ⟨[(2, (.pd Y3)), (3, (.pd Y38))], [], []⟩)] (.seq .leaf (.seq .leaf (.seq (.seq .leaf (.seq .leaf (.seq .leaf (.seq (.seq (.reg [(73, Y4)]) .leaf) .leaf)))) .leaf))))) .leaf)))))
noncomputable def F_product_CheckV (a0 : El Y29) : Option (El Y3 × El Y38) := evalF F_product_CheckE F_product_CheckB Try.f38.results F_product_CheckH F_product_CheckA F_product_CheckR (fun y => (y.2.1, y.2.2.1)) (a0, ())
theorem F_product_Check_eq (a0 : El Y29) : F_product_CheckV a0 = F_product_Check a0 := by kernel_rfl
theorem F_product_Check_ok : FnOK Try.prog 38 F_product_CheckS := evalF_ok (E := F_product_CheckE) (fn := Try.f38) (body := F_product_CheckB) (hint := F_product_CheckH) (pack := fun y => (y.2.1, y.2.2.1)) hmix (typesOk_of tab_ok rfl rfl rfl) (specsOk_of (m := [(52, [F_ident_ValidS]), (57, [F_product_withinS])]) ⟨⟨F_ident_Valid_ok, trivial⟩, ⟨F_product_within_ok, trivial⟩, trivial⟩ rfl) (by kernel_rfl) (by kernel_rfl) (by kernel_rfl) (by kernel_rfl) (by kernel_rfl) (by kernel_rfl) (fun y => rfl)
  (fun x z h => (F_product_Check_eq x.1).trans h)
noncomputable def F_footpath_sound : (El Y26) → (El Y3) → Option (El Y3 × El Y38) := fun a0 a1 =>
  Option.bind
    (Tr.run
      (fun s0 =>
        bif Decidable.decide (s0.snd < (↑(List.length a0) : Int)) then
          Option.bind (Tr.idx a0 s0.snd) fun x1 =>
            Option.bind
              (bif Decidable.decide (x1.fst < (0 : Int)) then Option.some (Decidable.decide (x1.fst < (0 : Int)))
              else
                Option.bind
                  (bif Decidable.decide (a1 ≤ x1.fst) then Option.some (Decidable.decide (a1 ≤ x1.fst))
                  else
                    Option.bind
                      (bif Decidable.decide (x1.snd.fst < (0 : Int)) then Option.some (Decidable.decide (x1.snd.fst < (0 : Int)))
                      else
                        Option.bind (bif Decidable.decide (a1 ≤ x1.snd.fst) then Option.some (Decidable.decide (a1 ≤ x1.snd.fst)) else Option.some (Decidable.decide (x1.fst = x1.snd.fst))) fun x2 =>
                          Option.some x2)
                      fun x3 => Option.some x3)
                  fun x4 => Option.some x4)
              fun x5 =>
              bif x5 then Option.some (Sum.inr (Sum.inr (s0.snd, (9 : Int))))
              else
                Option.bind
                  (bif Decidable.decide (x1.snd.snd.fst < (1 : Int)) then Option.some (Decidable.decide (x1.snd.snd.fst < (1 : Int)))
                  else Option.some (Decidable.decide ((14400 : Int) < x1.snd.snd.fst)))
                  fun x6 =>
                  bif x6 then Option.some (Sum.inr (Sum.inr (s0.snd, (2 : Int))))
                  else
                    bif Option.getD (Tr.amGet (Tr.keyEq Y146) (x1.fst, x1.snd.fst, x1.snd.snd.snd.fst, ()) s0.fst) (Bool.false) then Option.some (Sum.inr (Sum.inr (s0.snd, (6 : Int))))
                    else Option.some (Sum.inl (Tr.amSet (Tr.keyEq Y146) (x1.fst, x1.snd.fst, x1.snd.snd.snd.fst, ()) Bool.true s0.fst, Go.IntKind.wrap Go.IntKind.i64 (s0.snd + (1 : Int))))
        else Option.some (Sum.inr (Sum.inl ())))
      ([], (0 : Int)))
    fun x7 => Sum.elim (fun _ => Option.some ((0 : Int), (0 : Int))) (fun y9 => Option.some (y9.fst, y9.snd)) x7
abbrev F_footpath_soundA : Pats := (.cons (.pd Y26) (.cons (.pd Y3) .nil))
abbrev F_footpath_soundR : Pats := (.cons (.pd Y3) (.cons (.pd Y38) .nil))
noncomputable def F_footpath_soundS : Tr.Spec := { args := F_footpath_soundA, res := F_footpath_soundR, fns := [], α := El Y3 × El Y38, f := fun x => F_footpath_sound x.1 x.2.1, unp := fun z => (((), (), ()), (z.1, z.2, ())) }
noncomputable def F_footpath_soundE : Env := { ty := fun n => tyTab.lookup n, mty := fun n => mapTab.lookup n, pk := fun n => (pkTab.lookup n).getD 0, rw := fun n => [].contains n, specs := fun n => (([] : List (Nat × List Tr.Spec)).lookup n).getD [], nt := 62, ks := [] }
noncomputable def F_footpath_soundB : Code := match Try.f69.body with | some b => b | none => .skip
def F_footpath_soundH : Hint := (.seq .leaf (.seq .leaf (.seq (.seq .leaf (.lp ⟨[(6, (.map Y146 Y4)), (13, (.pd Y3))], [], [1, 11, 12]⟩ [((.exit 0), ⟨[], [], []⟩), (.ret, ⟨[(4, (.pd Y3)), (5, (.pd Y38))], [], []⟩)] (.seq .leaf (.seq .leaf (.seq (.seq .leaf (.seq .leaf (.seq (.seq (.seq .leaf (.cnd (some (⟨[], [], [1, 6, 7, 8, 9, 11, 12, 13]⟩, [(.normal, ⟨[(25, (.pd Y4))], [], [1, 6, 7, 8, 9, 11, 12, 13]⟩)])) .leaf (.seq .leaf (.cnd (some (⟨[], [], [1, 6, 7, 8, 9, 11, 12, 13]⟩, [(.normal, ⟨[(25, (.pd Y4))], [], [1, 6, 7, 8, 9, 11, 12, 13]⟩)])) .leaf (.seq .leaf (.cnd (some (⟨[], [], [1, 6, 7, 8, 9, 11, 12, 13]⟩, [(.normal, ⟨[(25, (.pd Y4))], [], [1, 6, 7, 8, 9, 11, 12, 13]⟩)])) .leaf (.seq .leaf (.cnd (some (⟨[], [], [1, 6, 7, 8, 9, 11, 12, 13]⟩, [(.normal, ⟨[(25, (.pd Y4))], [], [1, 6, 7, 8, 9, 11, 12, 13]⟩)])) .leaf .leaf)))))))) (.cnd none .leaf (.seq (.seq .leaf (.cnd (some (⟨[], [], [1, 6, 7, 9, 11, 12, 13]⟩, [(.normal, ⟨[(46, (.pd Y4))], [], [1, 6, 7, 9, 11, 12, 13]⟩)])) .leaf .leaf)) .leaf))) .leaf))) .leaf))))) .leaf)))
noncomputable def F_footpath_soundV (a0 : El Y26) (a1 : El Y3) : Option (El Y3 × El Y38) := evalF F_footpath_soundE F_footpath_soundB Try.f69.results F_footpath_soundH F_footpath_soundA F_footpath_soundR (fun y => (y.2.1, y.2.2.1)) (a0, a1, ())
theorem F_footpath_sound_eq (a0 : El Y26) (a1 : El Y3) : F_footpath_soundV a0 a1 = F_footpath_sound a0 a1 := by kernel_rfl
theorem F_footpath_sound_ok : FnOK Try.prog 69 F_footpath_soundS := evalF_ok (E := F_footpath_soundE) (fn := Try.f69) (body := F_footpath_soundB) (hint := F_footpath_soundH) (pack := fun y => (y.2.1, y.2.2.1)) hmix (typesOk_of tab_ok rfl rfl rfl) (specsOk_of (m := []) trivial rfl) (by kernel_rfl) (by kernel_rfl) (by kernel_rfl) (by kernel_rfl) (by kernel_rfl) (by kernel_rfl) (fun y => rfl)
  (fun x z h => (F_footpath_sound_eq x.1 x.2.1).trans h)
noncomputable def F_shortest_check_1 : (El Y3) → (El Y3) → Option (El Y4) := fun a0 a1 => Option.bind (bif Decidable.decide (a0 < (0 : Int)) then Option.some Bool.true else Option.some (Decidable.decide (a1 ≤ a0))) fun x0 => Option.some x0
abbrev F_shortest_check_1A : Pats := (.cons (.pd Y3) (.cons (.ro Y3) .nil))
abbrev F_shortest_check_1R : Pats := (.cons (.pd Y4) .nil)
noncomputable def F_shortest_check_1S : Tr.Spec := { args := F_shortest_check_1A, res := F_shortest_check_1R, fns := [], α := El Y4, f := fun x => F_shortest_check_1 x.1 x.2.1, unp := fun z => (((), (), ()), (z, ())) }
noncomputable def F_shortest_check_1E : Env := { ty := fun n => tyTab.lookup n, mty := fun n => mapTab.lookup n, pk := fun n => (pkTab.lookup n).getD 0, rw := fun n => [].contains n, specs := fun n => (([] : List (Nat × List Tr.Spec)).lookup n).getD [], nt := 11, ks := [] }
noncomputable def F_shortest_check_1B : Code := match Try.f102.body with | some b => b | none => .skip
def F_shortest_check_1H : Hint := (.seq .leaf (.seq (.reg [(3, Y4)]) .leaf))
noncomputable def F_shortest_check_1V (a0 : El Y3) (a1 : El Y3) : Option (El Y4) := evalF F_shortest_check_1E F_shortest_check_1B Try.f102.results F_shortest_check_1H F_shortest_check_1A F_shortest_check_1R (fun y => y.2.1) (a0, a1, ())
theorem F_shortest_check_1_eq (a0 : El Y3) (a1 : El Y3) : F_shortest_check_1V a0 a1 = F_shortest_check_1 a0 a1 := by kernel_rfl
theorem F_shortest_check_1_ok : FnOK Try.prog 102 F_shortest_check_1S := evalF_ok (E := F_shortest_check_1E) (fn := Try.f102) (body := F_shortest_check_1B) (hint := F_shortest_check_1H) (pack := fun y => y.2.1) hmix (typesOk_of tab_ok rfl rfl rfl) (specsOk_of (m := []) trivial rfl) (by kernel_rfl) (by kernel_rfl) (by kernel_rfl) (by kernel_rfl) (by kernel_rfl) (by kernel_rfl) (fun y => rfl)
  (fun x z h => (F_shortest_check_1_eq x.1 x.2.1).trans h)
noncomputable def F_shortest_check : (El Y3) → (El Y153) → (El Y47) → Option (El Y38) := fun a0 a1 a2 =>
  Option.bind (bif Decidable.decide (a0 < (0 : Int)) then Option.some Bool.true else Option.some (Decidable.decide ((64 : Int) < a0))) fun x0 =>
    bif x0 then Option.some (2 : Int)
    else
      bif Decidable.decide ((4096 : Int) < (↑(List.length a1) : Int)) then Option.some (5 : Int)
      else
        Option.bind
          (Tr.run
            (fun s1 =>
              bif Decidable.decide (s1 < (↑(List.length a1) : Int)) then
                Option.bind (Tr.idx a1 s1) fun x2 =>
                  Option.bind (F_shortest_check_1 x2.fst a0) fun x3 =>
                    bif x3 then Option.some (Sum.inr (Sum.inr (9 : Int)))
                    else
                      Option.bind (F_shortest_check_1 x2.snd.fst a0) fun x4 =>
                        bif x4 then Option.some (Sum.inr (Sum.inr (9 : Int)))
                        else
                          Option.bind (bif Decidable.decide (x2.snd.snd.fst < (0 : Int)) then Option.some Bool.true else Option.some (Decidable.decide ((1073741824 : Int) < x2.snd.snd.fst))) fun x5 =>
                            bif x5 then Option.some (Sum.inr (Sum.inr (2 : Int))) else Option.some (Sum.inl (Go.IntKind.wrap Go.IntKind.i64 (s1 + (1 : Int))))
              else Option.some (Sum.inr (Sum.inl ())))
            (0 : Int))
          fun x6 =>
          Sum.elim
            (fun _ =>
              Option.bind
                (Tr.run
                  (fun s8 =>
                    bif Decidable.decide (s8 < (↑(List.length a2) : Int)) then
                      Option.bind (Tr.idx a2 s8) fun x9 =>
                        Option.bind (F_shortest_check_1 x9 a0) fun x10 =>
                          bif x10 then Option.some (Sum.inr (Sum.inr (9 : Int))) else Option.some (Sum.inl (Go.IntKind.wrap Go.IntKind.i64 (s8 + (1 : Int))))
                    else Option.some (Sum.inr (Sum.inl ())))
                  (0 : Int))
                fun x11 => Sum.elim (fun _ => Option.some (0 : Int)) (fun y13 => Option.some y13) x11)
            (fun y14 => Option.some y14) x6
abbrev F_shortest_checkA : Pats := (.cons (.pd Y3) (.cons (.pd Y153) (.cons (.pd Y47) .nil)))
abbrev F_shortest_checkR : Pats := (.cons (.pd Y38) .nil)
noncomputable def F_shortest_checkS : Tr.Spec := { args := F_shortest_checkA, res := F_shortest_checkR, fns := [], α := El Y38, f := fun x => F_shortest_check x.1 x.2.1 x.2.2.1, unp := fun z => (((), (), (), ()), (z, ())) }
noncomputable def F_shortest_checkE : Env := { ty := fun n => tyTab.lookup n, mty := fun n => mapTab.lookup n, pk := fun n => (pkTab.lookup n).getD 0, rw := fun n => [].contains n, specs := fun n => (([(102, [F_shortest_check_1S])] : List (Nat × List Tr.Spec)).lookup n).getD [], nt := 57, ks := [] }
noncomputable def F_shortest_checkB : Code := match Try.f88.body with | some b => b | none => .skip
def F_shortest_checkH : Hint := (.seq .leaf (.seq (.seq (.reg [(17, Y4)]) .leaf) (.seq .leaf (.seq .leaf (.seq (.seq .leaf (.lp ⟨[(24, (.pd Y3))], [], [2, 7, 22, 23]⟩ [((.exit 0), ⟨[], [], [2, 7]⟩), (.ret, ⟨[(6, (.pd Y38))], [], []⟩)] (.seq .leaf (.seq .leaf (.seq (.seq .leaf (.seq .leaf (.seq (.reg [(45, Y4)]) .leaf))) .leaf))))) (.seq (.seq .leaf (.lp ⟨[(49, (.pd Y3))], [], [7, 47, 48]⟩ [((.exit 2), ⟨[], [], []⟩), (.ret, ⟨[(6, (.pd Y38))], [], []⟩)] .leaf)) .leaf))))))
noncomputable def F_shortest_checkV (a0 : El Y3) (a1 : El Y153) (a2 : El Y47) : Option (El Y38) := evalF F_shortest_checkE F_shortest_checkB Try.f88.results F_shortest_checkH F_shortest_checkA F_shortest_checkR (fun y => y.2.1) (a0, a1, a2, ())
theorem F_shortest_check_eq (a0 : El Y3) (a1 : El Y153) (a2 : El Y47) : F_shortest_checkV a0 a1 a2 = F_shortest_check a0 a1 a2 := by kernel_rfl
theorem F_shortest_check_ok : FnOK Try.prog 88 F_shortest_checkS := evalF_ok (E := F_shortest_checkE) (fn := Try.f88) (body := F_shortest_checkB) (hint := F_shortest_checkH) (pack := fun y => y.2.1) hmix (typesOk_of tab_ok rfl rfl rfl) (specsOk_of (m := [(102, [F_shortest_check_1S])]) ⟨⟨F_shortest_check_1_ok, trivial⟩, trivial⟩ rfl) (by kernel_rfl) (by kernel_rfl) (by kernel_rfl) (by kernel_rfl) (by kernel_rfl) (by kernel_rfl) (fun y => rfl)
  (fun x z h => (F_shortest_check_eq x.1 x.2.1 x.2.2.1).trans h)
noncomputable def F_shortest_neighbors : (El Y153) → (El Y4) → Option (List (El Y3 × List (El Y155))) := fun a0 a1 =>
  Option.bind
    (Tr.run
      (fun s0 =>
        bif Decidable.decide (s0.snd < (↑(List.length a0) : Int)) then
          Option.bind (Tr.idx a0 s0.snd) fun x1 =>
            Option.bind (bif a1 then Option.some (x1.snd.fst, x1.fst, x1.snd.snd) else Option.some x1) fun x2 =>
              Option.bind (Tr.guardB (Decidable.decide (List.length (Option.getD (Tr.amGet (Tr.keyEq Y3) x2.fst s0.fst) []) + List.length [x2] ≤ Tr.maxApp))) fun _ =>
                Option.bind (Tr.guardB (Tr.holeK Y3 (Option.some x2.fst) x2.fst)) fun _ =>
                  Option.some (Sum.inl (Tr.amSet (Tr.keyEq Y3) x2.fst (Option.getD (Tr.amGet (Tr.keyEq Y3) x2.fst s0.fst) [] ++ [x2]) s0.fst, Go.IntKind.wrap Go.IntKind.i64 (s0.snd + (1 : Int))))
        else Option.some (Sum.inr s0.fst))
      ([], (0 : Int)))
    fun x5 => Option.some x5
abbrev F_shortest_neighborsA : Pats := (.cons (.pd Y153) (.cons (.pd Y4) .nil))
abbrev F_shortest_neighborsR : Pats := (.cons (.mrows Y3 Y155) .nil)
noncomputable def F_shortest_neighborsS : Tr.Spec := { args := F_shortest_neighborsA, res := F_shortest_neighborsR, fns := [], α := List (El Y3 × List (El Y155)), f := fun x => F_shortest_neighbors x.1 x.2.1, unp := fun z => (((), (), ()), (z, ())) }
noncomputable def F_shortest_neighborsE : Env := { ty := fun n => tyTab.lookup n, mty := fun n => mapTab.lookup n, pk := fun n => (pkTab.lookup n).getD 0, rw := fun n => [162].contains n, specs := fun n => (([] : List (Nat × List Tr.Spec)).lookup n).getD [], nt := 34, ks := [] }
noncomputable def F_shortest_neighborsB : Code := match Try.f89.body with | some b => b | none => .skip
def F_shortest_neighborsH : Hint := (.seq .leaf (.seq .leaf (.seq (.seq .leaf (.lp ⟨[(5, (.mrows Y3 Y155)), (11, (.pd Y3))], [], [1, 9, 10]⟩ [((.exit 0), ⟨[(5, (.mrows Y3 Y155))], [], []⟩)] (.seq .leaf (.seq .leaf (.seq (.seq .leaf (.seq (.seq .leaf (.cnd (some (⟨[], [], [1, 5, 9, 10, 11]⟩, [(.normal, ⟨[(7, (.var Y155 (.pd Y155)))], [], [1, 5, 9, 10, 11]⟩)])) .leaf .leaf)) .leaf)) .leaf))))) .leaf)))
noncomputable def F_shortest_neighborsV (a0 : El Y153) (a1 : El Y4) : Option (List (El Y3 × List (El Y155))) := evalF F_shortest_neighborsE F_shortest_neighborsB Try.f89.results F_shortest_neighborsH F_shortest_neighborsA F_shortest_neighborsR (fun y => y.2.1) (a0, a1, ())
theorem F_shortest_neighbors_eq (a0 : El Y153) (a1 : El Y4) : F_shortest_neighborsV a0 a1 = F_shortest_neighbors a0 a1 := by kernel_rfl
theorem F_shortest_neighbors_ok : FnOK Try.prog 89 F_shortest_neighborsS := evalF_ok (E := F_shortest_neighborsE) (fn := Try.f89) (body := F_shortest_neighborsB) (hint := F_shortest_neighborsH) (pack := fun y => y.2.1) hmix (typesOk_of tab_ok rfl rfl rfl) (specsOk_of (m := []) trivial rfl) (by kernel_rfl) (by kernel_rfl) (by kernel_rfl) (by kernel_rfl) (by kernel_rfl) (by kernel_rfl) (fun y => rfl)
  (fun x z h => (F_shortest_neighbors_eq x.1 x.2.1).trans h)
noncomputable def F_shortest_lengths : (El Y165) → Option (El Y47) := fun a0 =>
  Option.bind
    (Tr.guardB
      (Decidable.decide
        ((0 : Tr.El (Tr.Ty.int Go.IntKind.i64)) ≤ (↑(List.length a0) : Int) ∧
          (↑(List.length a0) : Int) ≤ (↑(List.length a0) : Int) ∧ (↑(List.length a0) : Int) ≤ (↑Tr.maxApp : Tr.El (Tr.Ty.int Go.IntKind.i64)))))
    fun _ =>
    Option.bind
      (Tr.run
        (fun s1 =>
          bif Decidable.decide (s1.snd < (↑(List.length a0) : Int)) then
            Option.bind (Tr.idx a0 s1.snd) fun x2 =>
              Option.bind (Tr.inb s1.snd (List.length s1.fst)) fun x3 =>
                Option.bind s1.fst[x3]? fun _ => Option.some (Sum.inl (List.set s1.fst x3 x2.snd.fst, Go.IntKind.wrap Go.IntKind.i64 (s1.snd + (1 : Int))))
          else Option.some (Sum.inr s1.fst))
        (List.replicate (Int.toNat (↑(List.length a0) : Int)) ((0 : Int)), (0 : Int)))
      fun x5 => Option.some x5
abbrev F_shortest_lengthsA : Pats := (.cons (.pd Y165) .nil)
abbrev F_shortest_lengthsR : Pats := (.cons (.pd Y47) .nil)
noncomputable def F_shortest_lengthsS : Tr.Spec := { args := F_shortest_lengthsA, res := F_shortest_lengthsR, fns := [], α := El Y47, f := fun x => F_shortest_lengths x.1, unp := fun z => (((), ()), (z, ())) }
noncomputable def F_shortest_lengthsE : Env := { ty := fun n => tyTab.lookup n, mty := fun n => mapTab.lookup n, pk := fun n => (pkTab.lookup n).getD 0, rw := fun n => [].contains n, specs := fun n => (([] : List (Nat × List Tr.Spec)).lookup n).getD [], nt := 23, ks := [] }
noncomputable def F_shortest_lengthsB : Code := match Try.f90.body with | some b => b | none => .skip
def F_shortest_lengthsH : Hint := (.seq .leaf (.seq .leaf (.seq (.seq .leaf (.lp ⟨[(3, (.own Y3 false)), (11, (.pd Y3))], [], [9, 10]⟩ [((.exit 0), ⟨[(3, (.own Y3 false))], [], []⟩)] .leaf)) .leaf)))
noncomputable def F_shortest_lengthsV (a0 : El Y165) : Option (El Y47) := evalF F_shortest_lengthsE F_shortest_lengthsB Try.f90.results F_shortest_lengthsH F_shortest_lengthsA F_shortest_lengthsR (fun y => y.2.1) (a0, ())
theorem F_shortest_lengths_eq (a0 : El Y165) : F_shortest_lengthsV a0 = F_shortest_lengths a0 := by kernel_rfl
theorem F_shortest_lengths_ok : FnOK Try.prog 90 F_shortest_lengthsS := evalF_ok (E := F_shortest_lengthsE) (fn := Try.f90) (body := F_shortest_lengthsB) (hint := F_shortest_lengthsH) (pack := fun y => y.2.1) hmix (typesOk_of tab_ok rfl rfl rfl) (specsOk_of (m := []) trivial rfl) (by kernel_rfl) (by kernel_rfl) (by kernel_rfl) (by kernel_rfl) (by kernel_rfl) (by kernel_rfl) (fun y => rfl)
  (fun x z h => (F_shortest_lengths_eq x.1).trans h)
noncomputable def F_shortest_less : (El Y178) → (El Y178) → Option (El Y4) := fun a0 a1 =>
  Option.bind
    (bif Decidable.decide (a0.snd.fst < a1.snd.fst) then Option.some Bool.true
    else bif Decidable.decide (a0.snd.fst = a1.snd.fst) then Option.some (Decidable.decide (a0.snd.snd.fst < a1.snd.snd.fst)) else Option.some Bool.false)
    fun x0 => Option.some x0
abbrev F_shortest_lessA : Pats := (.cons (.pd Y178) (.cons (.pd Y178) .nil))
abbrev F_shortest_lessR : Pats := (.cons (.pd Y4) .nil)
noncomputable def F_shortest_lessS : Tr.Spec := { args := F_shortest_lessA, res := F_shortest_lessR, fns := [], α := El Y4, f := fun x => F_shortest_less x.1 x.2.1, unp := fun z => (((), (), ()), (z, ())) }
noncomputable def F_shortest_lessE : Env := { ty := fun n => tyTab.lookup n, mty := fun n => mapTab.lookup n, pk := fun n => (pkTab.lookup n).getD 0, rw := fun n => [].contains n, specs := fun n => (([] : List (Nat × List Tr.Spec)).lookup n).getD [], nt := 24, ks := [] }
noncomputable def F_shortest_lessB : Code := match Try.f104.body with | some b => b | none => .skip
def F_shortest_lessH : Hint := (.seq .leaf (.seq (.reg [(4, Y4)]) .leaf))
noncomputable def F_shortest_lessV (a0 : El Y178) (a1 : El Y178) : Option (El Y4) := evalF F_shortest_lessE F_shortest_lessB Try.f104.results F_shortest_lessH F_shortest_lessA F_shortest_lessR (fun y => y.2.1) (a0, a1, ())
theorem F_shortest_less_eq (a0 : El Y178) (a1 : El Y178) : F_shortest_lessV a0 a1 = F_shortest_less a0 a1 := by kernel_rfl
theorem F_shortest_less_ok : FnOK Try.prog 104 F_shortest_lessS := evalF_ok (E := F_shortest_lessE) (fn := Try.f104) (body := F_shortest_lessB) (hint := F_shortest_lessH) (pack := fun y => y.2.1) hmix (typesOk_of tab_ok rfl rfl rfl) (specsOk_of (m := []) trivial rfl) (by kernel_rfl) (by kernel_rfl) (by kernel_rfl) (by kernel_rfl) (by kernel_rfl) (by kernel_rfl) (fun y => rfl)
  (fun x z h => (F_shortest_less_eq x.1 x.2.1).trans h)
noncomputable def F_heap_Heap_shortest_label_before : ((Unit × List (El Y195) × El Y3 × Unit)) → (El Y3) → (El Y3) → Option ((Unit × List (El Y195) × El Y3 × Unit) × El Y4) := fun a0 a1 a2 =>
  Option.bind (Tr.inb a1 (List.length a0.snd.fst)) fun x0 =>
    Option.bind a0.snd.fst[x0]? fun x1 =>
      Option.bind (Tr.inb a2 (List.length a0.snd.fst)) fun x2 =>
        Option.bind a0.snd.fst[x2]? fun x3 =>
          Option.bind (F_shortest_less x1.fst x3.fst) fun x4 =>
            bif x4 then Option.some (((), a0.snd.fst, a0.snd.snd.fst, ()), Bool.true)
            else
              Option.bind (F_shortest_less x3.fst x1.fst) fun x5 =>
                bif x5 then Option.some (((), a0.snd.fst, a0.snd.snd.fst, ()), Bool.false) else Option.some (((), a0.snd.fst, a0.snd.snd.fst, ()), Decidable.decide (x1.snd.fst < x3.snd.fst))
abbrev F_heap_Heap_shortest_label_beforeA : Pats := (.cons (.var Y193 (.agg (.cons (.fn 104 .nil) (.cons (.own Y195 true) (.cons (.pd Y3) .nil))))) (.cons (.pd Y3) (.cons (.pd Y3) .nil)))
abbrev F_heap_Heap_shortest_label_beforeR : Pats := (.cons (.pd Y4) .nil)
noncomputable def F_heap_Heap_shortest_label_beforeS : Tr.Spec := { args := F_heap_Heap_shortest_label_beforeA, res := F_heap_Heap_shortest_label_beforeR, fns := [], α := (Unit × List (El Y195) × El Y3 × Unit) × El Y4, f := fun x => F_heap_Heap_shortest_label_before x.1 x.2.1 x.2.2.1, unp := fun z => ((z.1, (), (), ()), (z.2, ())) }
noncomputable def F_heap_Heap_shortest_label_beforeE : Env := { ty := fun n => tyTab.lookup n, mty := fun n => mapTab.lookup n, pk := fun n => (pkTab.lookup n).getD 0, rw := fun n => [].contains n, specs := fun n => (([(104, [F_shortest_lessS])] : List (Nat × List Tr.Spec)).lookup n).getD [], nt := 46, ks := [] }
noncomputable def F_heap_Heap_shortest_label_beforeB : Code := match Try.f112.body with | some b => b | none => .skip
def F_heap_Heap_shortest_label_beforeH : Hint := .leaf
noncomputable def F_heap_Heap_shortest_label_beforeV (a0 : (Unit × List (El Y195) × El Y3 × Unit)) (a1 : El Y3) (a2 : El Y3) : Option ((Unit × List (El Y195) × El Y3 × Unit) × El Y4) := evalF F_heap_Heap_shortest_label_beforeE F_heap_Heap_shortest_label_beforeB Try.f112.results F_heap_Heap_shortest_label_beforeH F_heap_Heap_shortest_label_beforeA F_heap_Heap_shortest_label_beforeR (fun y => (y.1.1, y.2.1)) (a0, a1, a2, ())
theorem F_heap_Heap_shortest_label_before_eq (a0 : (Unit × List (El Y195) × El Y3 × Unit)) (a1 : El Y3) (a2 : El Y3) : F_heap_Heap_shortest_label_beforeV a0 a1 a2 = F_heap_Heap_shortest_label_before a0 a1 a2 := by kernel_rfl
theorem F_heap_Heap_shortest_label_before_ok : FnOK Try.prog 112 F_heap_Heap_shortest_label_beforeS := evalF_ok (E := F_heap_Heap_shortest_label_beforeE) (fn := Try.f112) (body := F_heap_Heap_shortest_label_beforeB) (hint := F_heap_Heap_shortest_label_beforeH) (pack := fun y => (y.1.1, y.2.1)) hmix (typesOk_of tab_ok rfl rfl rfl) (specsOk_of (m := [(104, [F_shortest_lessS])]) ⟨⟨F_shortest_less_ok, trivial⟩, trivial⟩ rfl) (by kernel_rfl) (by kernel_rfl) (by kernel_rfl) (by kernel_rfl) (by kernel_rfl) (by kernel_rfl) (fun y => rfl)
  (fun x z h => (F_heap_Heap_shortest_label_before_eq x.1 x.2.1 x.2.2.1).trans h)
noncomputable def F_heap_Heap_shortest_label_swap : ((Unit × List (El Y195) × El Y3 × Unit)) → (El Y3) → (El Y3) → Option ((Unit × List (El Y195) × El Y3 × Unit)) := fun a0 a1 a2 =>
  Option.bind (Tr.inb a2 (List.length a0.snd.fst)) fun x0 =>
    Option.bind a0.snd.fst[x0]? fun x1 =>
      Option.bind (Tr.inb a1 (List.length a0.snd.fst)) fun x2 =>
        Option.bind a0.snd.fst[x2]? fun x3 =>
          Option.bind (Tr.inb a1 (List.length a0.snd.fst)) fun x4 =>
            Option.bind a0.snd.fst[x4]? fun _ =>
              Option.bind (Tr.inb a2 (List.length (List.set a0.snd.fst x4 x1))) fun x6 =>
                Option.bind (List.set a0.snd.fst x4 x1)[x6]? fun _ => Option.some ((), List.set (List.set a0.snd.fst x4 x1) x6 x3, a0.snd.snd.fst, ())
abbrev F_heap_Heap_shortest_label_swapA : Pats := (.cons (.var Y193 (.agg (.cons (.fn 104 .nil) (.cons (.own Y195 true) (.cons (.pd Y3) .nil))))) (.cons (.pd Y3) (.cons (.pd Y3) .nil)))
abbrev F_heap_Heap_shortest_label_swapR : Pats := .nil
noncomputable def F_heap_Heap_shortest_label_swapS : Tr.Spec := { args := F_heap_Heap_shortest_label_swapA, res := F_heap_Heap_shortest_label_swapR, fns := [], α := (Unit × List (El Y195) × El Y3 × Unit), f := fun x => F_heap_Heap_shortest_label_swap x.1 x.2.1 x.2.2.1, unp := fun z => ((z, (), (), ()), ()) }
noncomputable def F_heap_Heap_shortest_label_swapE : Env := { ty := fun n => tyTab.lookup n, mty := fun n => mapTab.lookup n, pk := fun n => (pkTab.lookup n).getD 0, rw := fun n => [].contains n, specs := fun n => (([(104, [F_shortest_lessS])] : List (Nat × List Tr.Spec)).lookup n).getD [], nt := 32, ks := [] }
noncomputable def F_heap_Heap_shortest_label_swapB : Code := match Try.f113.body with | some b => b | none => .skip
def F_heap_Heap_shortest_label_swapH : Hint := .leaf
noncomputable def F_heap_Heap_shortest_label_swapV (a0 : (Unit × List (El Y195) × El Y3 × Unit)) (a1 : El Y3) (a2 : El Y3) : Option ((Unit × List (El Y195) × El Y3 × Unit)) := evalF F_heap_Heap_shortest_label_swapE F_heap_Heap_shortest_label_swapB Try.f113.results F_heap_Heap_shortest_label_swapH F_heap_Heap_shortest_label_swapA F_heap_Heap_shortest_label_swapR (fun y => y.1.1) (a0, a1, a2, ())
theorem F_heap_Heap_shortest_label_swap_eq (a0 : (Unit × List (El Y195) × El Y3 × Unit)) (a1 : El Y3) (a2 : El Y3) : F_heap_Heap_shortest_label_swapV a0 a1 a2 = F_heap_Heap_shortest_label_swap a0 a1 a2 := by kernel_rfl
theorem F_heap_Heap_shortest_label_swap_ok : FnOK Try.prog 113 F_heap_Heap_shortest_label_swapS := evalF_ok (E := F_heap_Heap_shortest_label_swapE) (fn := Try.f113) (body := F_heap_Heap_shortest_label_swapB) (hint := F_heap_Heap_shortest_label_swapH) (pack := fun y => y.1.1) hmix (typesOk_of tab_ok rfl rfl rfl) (specsOk_of (m := [(104, [F_shortest_lessS])]) ⟨⟨F_shortest_less_ok, trivial⟩, trivial⟩ rfl) (by kernel_rfl) (by kernel_rfl) (by kernel_rfl) (by kernel_rfl) (by kernel_rfl) (by kernel_rfl) (fun y => rfl)
  (fun x z h => (F_heap_Heap_shortest_label_swap_eq x.1 x.2.1 x.2.2.1).trans h)
noncomputable def F_heap_Heap_shortest_label_Push : ((Unit × List (El Y195) × El Y3 × Unit)) → (El Y178) → Option ((Unit × List (El Y195) × El Y3 × Unit)) := fun a0 a1 =>
  Option.bind (Tr.guardB (Decidable.decide (List.length a0.snd.fst + List.length [(a1, a0.snd.snd.fst, ())] ≤ Tr.maxApp))) fun _ =>
    Option.bind
      (Tr.run
        (fun s1 =>
          bif Decidable.decide ((0 : Int) < s1.snd) then
            Option.bind
              (F_heap_Heap_shortest_label_before ((), s1.fst.snd.fst, s1.fst.snd.snd.fst, ()) s1.snd
                (Go.IntKind.wrap Go.IntKind.i64 (Int.tdiv (Go.IntKind.wrap Go.IntKind.i64 (s1.snd - (1 : Int))) (2 : Int))))
              fun x2 =>
              bif x2.snd then
                Option.bind
                  (F_heap_Heap_shortest_label_swap ((), x2.fst.snd.fst, x2.fst.snd.snd.fst, ()) s1.snd
                    (Go.IntKind.wrap Go.IntKind.i64 (Int.tdiv (Go.IntKind.wrap Go.IntKind.i64 (s1.snd - (1 : Int))) (2 : Int))))
                  fun x3 => Option.some (Sum.inl (((), x3.snd.fst, x3.snd.snd.fst, ()), Go.IntKind.wrap Go.IntKind.i64 (Int.tdiv (Go.IntKind.wrap Go.IntKind.i64 (s1.snd - (1 : Int))) (2 : Int))))
              else Option.some (Sum.inr ((), x2.fst.snd.fst, x2.fst.snd.snd.fst, ()))
          else Option.some (Sum.inr ((), s1.fst.snd.fst, s1.fst.snd.snd.fst, ())))
        (((), a0.snd.fst ++ [(a1, a0.snd.snd.fst, ())], Go.IntKind.wrap Go.IntKind.i64 (a0.snd.snd.fst + (1 : Int)), ()),
          Go.IntKind.wrap Go.IntKind.i64 ((↑(List.length (a0.snd.fst ++ [(a1, a0.snd.snd.fst, ())])) : Int) - (1 : Int))))
      fun x4 => Option.some ((), x4.snd.fst, x4.snd.snd.fst, ())
abbrev F_heap_Heap_shortest_label_PushA : Pats := (.cons (.var Y193 (.agg (.cons (.fn 104 .nil) (.cons (.own Y195 true) (.cons (.pd Y3) .nil))))) (.cons (.pd Y178) .nil))
abbrev F_heap_Heap_shortest_label_PushR : Pats := .nil
noncomputable def F_heap_Heap_shortest_label_PushS : Tr.Spec := { args := F_heap_Heap_shortest_label_PushA, res := F_heap_Heap_shortest_label_PushR, fns := [], α := (Unit × List (El Y195) × El Y3 × Unit), f := fun x => F_heap_Heap_shortest_label_Push x.1 x.2.1, unp := fun z => ((z, (), ()), ()) }
noncomputable def F_heap_Heap_shortest_label_PushE : Env := { ty := fun n => tyTab.lookup n, mty := fun n => mapTab.lookup n, pk := fun n => (pkTab.lookup n).getD 0, rw := fun n => [].contains n, specs := fun n => (([(104, [F_shortest_lessS]), (112, [F_heap_Heap_shortest_label_beforeS]), (113, [F_heap_Heap_shortest_label_swapS])] : List (Nat × List Tr.Spec)).lookup n).getD [], nt := 54, ks := [] }
noncomputable def F_heap_Heap_shortest_label_PushB : Code := match Try.f105.body with | some b => b | none => .skip
def F_heap_Heap_shortest_label_PushH : Hint := (.seq .leaf (.seq .leaf (.seq .leaf (.seq .leaf (.seq .leaf (.lp ⟨[(0, (.var Y193 (.agg (.cons (.fn 104 .nil) (.cons (.own Y195 false) (.cons (.pd Y3) .nil)))))), (4, (.pd Y3))], [], []⟩ [((.exit 0), ⟨[(0, (.var Y193 (.agg (.cons (.fn 104 .nil) (.cons (.own Y195 false) (.cons (.pd Y3) .nil))))))], [], []⟩)] .leaf))))))
noncomputable def F_heap_Heap_shortest_label_PushV (a0 : (Unit × List (El Y195) × El Y3 × Unit)) (a1 : El Y178) : Option ((Unit × List (El Y195) × El Y3 × Unit)) := evalF F_heap_Heap_shortest_label_PushE F_heap_Heap_shortest_label_PushB Try.f105.results F_heap_Heap_shortest_label_PushH F_heap_Heap_shortest_label_PushA F_heap_Heap_shortest_label_PushR (fun y => y.1.1) (a0, a1, ())
theorem F_heap_Heap_shortest_label_Push_eq (a0 : (Unit × List (El Y195) × El Y3 × Unit)) (a1 : El Y178) : F_heap_Heap_shortest_label_PushV a0 a1 = F_heap_Heap_shortest_label_Push a0 a1 := by kernel_rfl
theorem F_heap_Heap_shortest_label_Push_ok : FnOK Try.prog 105 F_heap_Heap_shortest_label_PushS := evalF_ok (E := F_heap_Heap_shortest_label_PushE) (fn := Try.f105) (body := F_heap_Heap_shortest_label_PushB) (hint := F_heap_Heap_shortest_label_PushH) (pack := fun y => y.1.1) hmix (typesOk_of tab_ok rfl rfl rfl) (specsOk_of (m := [(104, [F_shortest_lessS]), (112, [F_heap_Heap_shortest_label_beforeS]), (113, [F_heap_Heap_shortest_label_swapS])]) ⟨⟨F_shortest_less_ok, trivial⟩, ⟨F_heap_Heap_shortest_label_before_ok, trivial⟩, ⟨F_heap_Heap_shortest_label_swap_ok, trivial⟩, trivial⟩ rfl) (by kernel_rfl) (by kernel_rfl) (by kernel_rfl) (by kernel_rfl) (by kernel_rfl) (by kernel_rfl) (fun y => rfl)
  (fun x z h => (F_heap_Heap_shortest_label_Push_eq x.1 x.2.1).trans h)
noncomputable def F_heap_Heap_shortest_label_Len : ((Unit × List (El Y195) × El Y3 × Unit)) → Option ((Unit × List (El Y195) × El Y3 × Unit) × El Y3) := fun a0 => Option.some (((), a0.snd.fst, a0.snd.snd.fst, ()), (↑(List.length a0.snd.fst) : Int))
abbrev F_heap_Heap_shortest_label_LenA : Pats := (.cons (.var Y193 (.agg (.cons (.fn 104 .nil) (.cons (.own Y195 true) (.cons (.pd Y3) .nil))))) .nil)
abbrev F_heap_Heap_shortest_label_LenR : Pats := (.cons (.pd Y3) .nil)
noncomputable def F_heap_Heap_shortest_label_LenS : Tr.Spec := { args := F_heap_Heap_shortest_label_LenA, res := F_heap_Heap_shortest_label_LenR, fns := [], α := (Unit × List (El Y195) × El Y3 × Unit) × El Y3, f := fun x => F_heap_Heap_shortest_label_Len x.1, unp := fun z => ((z.1, ()), (z.2, ())) }
noncomputable def F_heap_Heap_shortest_label_LenE : Env := { ty := fun n => tyTab.lookup n, mty := fun n => mapTab.lookup n, pk := fun n => (pkTab.lookup n).getD 0, rw := fun n => [].contains n, specs := fun n => (([(104, [F_shortest_lessS])] : List (Nat × List Tr.Spec)).lookup n).getD [], nt := 10, ks := [] }
noncomputable def F_heap_Heap_shortest_label_LenB : Code := match Try.f117.body with | some b => b | none => .skip
def F_heap_Heap_shortest_label_LenH : Hint := .leaf
noncomputable def F_heap_Heap_shortest_label_LenV (a0 : (Unit × List (El Y195) × El Y3 × Unit)) : Option ((Unit × List (El Y195) × El Y3 × Unit) × El Y3) := evalF F_heap_Heap_shortest_label_LenE F_heap_Heap_shortest_label_LenB Try.f117.results F_heap_Heap_shortest_label_LenH F_heap_Heap_shortest_label_LenA F_heap_Heap_shortest_label_LenR (fun y => (y.1.1, y.2.1)) (a0, ())
theorem F_heap_Heap_shortest_label_Len_eq (a0 : (Unit × List (El Y195) × El Y3 × Unit)) : F_heap_Heap_shortest_label_LenV a0 = F_heap_Heap_shortest_label_Len a0 := by kernel_rfl
theorem F_heap_Heap_shortest_label_Len_ok : FnOK Try.prog 117 F_heap_Heap_shortest_label_LenS := evalF_ok (E := F_heap_Heap_shortest_label_LenE) (fn := Try.f117) (body := F_heap_Heap_shortest_label_LenB) (hint := F_heap_Heap_shortest_label_LenH) (pack := fun y => (y.1.1, y.2.1)) hmix (typesOk_of tab_ok rfl rfl rfl) (specsOk_of (m := [(104, [F_shortest_lessS])]) ⟨⟨F_shortest_less_ok, trivial⟩, trivial⟩ rfl) (by kernel_rfl) (by kernel_rfl) (by kernel_rfl) (by kernel_rfl) (by kernel_rfl) (by kernel_rfl) (fun y => rfl)
  (fun x z h => (F_heap_Heap_shortest_label_Len_eq x.1).trans h)
noncomputable def F_heap_Heap_shortest_label_Peek : ((Unit × List (El Y195) × El Y3 × Unit)) → Option ((Unit × List (El Y195) × El Y3 × Unit) × El Y178 × El Y4) := fun a0 =>
  Option.bind (F_heap_Heap_shortest_label_Len ((), a0.snd.fst, a0.snd.snd.fst, ())) fun x0 =>
    bif Decidable.decide (x0.snd = (0 : Int)) then Option.some (((), x0.fst.snd.fst, x0.fst.snd.snd.fst, ()), ((0 : Int), (0 : Int), (0 : Int), ()), Bool.false)
    else Option.bind (Tr.inb (0 : Int) (List.length x0.fst.snd.fst)) fun x1 => Option.bind x0.fst.snd.fst[x1]? fun x2 => Option.some (((), x0.fst.snd.fst, x0.fst.snd.snd.fst, ()), x2.fst, Bool.true)
abbrev F_heap_Heap_shortest_label_PeekA : Pats := (.cons (.var Y193 (.agg (.cons (.fn 104 .nil) (.cons (.own Y195 true) (.cons (.pd Y3) .nil))))) .nil)
abbrev F_heap_Heap_shortest_label_PeekR : Pats := (.cons (.pd Y178) (.cons (.pd Y4) .nil))
noncomputable def F_heap_Heap_shortest_label_PeekS : Tr.Spec := { args := F_heap_Heap_shortest_label_PeekA, res := F_heap_Heap_shortest_label_PeekR, fns := [], α := (Unit × List (El Y195) × El Y3 × Unit) × El Y178 × El Y4, f := fun x => F_heap_Heap_shortest_label_Peek x.1, unp := fun z => ((z.1, ()), (z.2.1, z.2.2, ())) }
noncomputable def F_heap_Heap_shortest_label_PeekE : Env := { ty := fun n => tyTab.lookup n, mty := fun n => mapTab.lookup n, pk := fun n => (pkTab.lookup n).getD 0, rw := fun n => [].contains n, specs := fun n => (([(104, [F_shortest_lessS]), (117, [F_heap_Heap_shortest_label_LenS])] : List (Nat × List Tr.Spec)).lookup n).getD [], nt := 16, ks := [] }
noncomputable def F_heap_Heap_shortest_label_PeekB : Code := match Try.f114.body with | some b => b | none => .skip
def F_heap_Heap_shortest_label_PeekH : Hint := .leaf
noncomputable def F_heap_Heap_shortest_label_PeekV (a0 : (Unit × List (El Y195) × El Y3 × Unit)) : Option ((Unit × List (El Y195) × El Y3 × Unit) × El Y178 × El Y4) := evalF F_heap_Heap_shortest_label_PeekE F_heap_Heap_shortest_label_PeekB Try.f114.results F_heap_Heap_shortest_label_PeekH F_heap_Heap_shortest_label_PeekA F_heap_Heap_shortest_label_PeekR (fun y => (y.1.1, y.2.1, y.2.2.1)) (a0, ())
theorem F_heap_Heap_shortest_label_Peek_eq (a0 : (Unit × List (El Y195) × El Y3 × Unit)) : F_heap_Heap_shortest_label_PeekV a0 = F_heap_Heap_shortest_label_Peek a0 := by kernel_rfl
theorem F_heap_Heap_shortest_label_Peek_ok : FnOK Try.prog 114 F_heap_Heap_shortest_label_PeekS := evalF_ok (E := F_heap_Heap_shortest_label_PeekE) (fn := Try.f114) (body := F_heap_Heap_shortest_label_PeekB) (hint := F_heap_Heap_shortest_label_PeekH) (pack := fun y => (y.1.1, y.2.1, y.2.2.1)) hmix (typesOk_of tab_ok rfl rfl rfl) (specsOk_of (m := [(104, [F_shortest_lessS]), (117, [F_heap_Heap_shortest_label_LenS])]) ⟨⟨F_shortest_less_ok, trivial⟩, ⟨F_heap_Heap_shortest_label_Len_ok, trivial⟩, trivial⟩ rfl) (by kernel_rfl) (by kernel_rfl) (by kernel_rfl) (by kernel_rfl) (by kernel_rfl) (by kernel_rfl) (fun y => rfl)
  (fun x z h => (F_heap_Heap_shortest_label_Peek_eq x.1).trans h)
noncomputable def F_heap_Heap_shortest_label_sink : ((Unit × List (El Y195) × El Y3 × Unit)) → Option ((Unit × List (El Y195) × El Y3 × Unit)) := fun a0 =>
  Option.bind
    (Tr.run
      (fun s0 =>
        bif Decidable.decide ((↑(List.length s0.fst.snd.fst) : Int) ≤ Go.IntKind.wrap Go.IntKind.i64 (Go.IntKind.wrap Go.IntKind.i64 ((2 : Int) * s0.snd) + (1 : Int))) then
          Option.some (Sum.inr ((), s0.fst.snd.fst, s0.fst.snd.snd.fst, ()))
        else
          bif
              Decidable.decide
                (Go.IntKind.wrap Go.IntKind.i64 (Go.IntKind.wrap Go.IntKind.i64 (Go.IntKind.wrap Go.IntKind.i64 ((2 : Int) * s0.snd) + (1 : Int)) + (1 : Int)) <
                  (↑(List.length s0.fst.snd.fst) : Int)) then
            Option.bind
              (F_heap_Heap_shortest_label_before ((), s0.fst.snd.fst, s0.fst.snd.snd.fst, ())
                (Go.IntKind.wrap Go.IntKind.i64 (Go.IntKind.wrap Go.IntKind.i64 (Go.IntKind.wrap Go.IntKind.i64 ((2 : Int) * s0.snd) + (1 : Int)) + (1 : Int)))
                (Go.IntKind.wrap Go.IntKind.i64 (Go.IntKind.wrap Go.IntKind.i64 ((2 : Int) * s0.snd) + (1 : Int))))
              fun x1 =>
              Option.bind
                (bif x1.snd then
                  Option.some
                    (((), x1.fst.snd.fst, x1.fst.snd.snd.fst, ()),
                      Go.IntKind.wrap Go.IntKind.i64 (Go.IntKind.wrap Go.IntKind.i64 (Go.IntKind.wrap Go.IntKind.i64 ((2 : Int) * s0.snd) + (1 : Int)) + (1 : Int)))
                else Option.some (((), x1.fst.snd.fst, x1.fst.snd.snd.fst, ()), Go.IntKind.wrap Go.IntKind.i64 (Go.IntKind.wrap Go.IntKind.i64 ((2 : Int) * s0.snd) + (1 : Int))))
                fun x2 =>
                Option.bind (F_heap_Heap_shortest_label_before ((), x2.fst.snd.fst, x2.fst.snd.snd.fst, ()) x2.snd s0.snd) fun x3 =>
                  bif !x3.snd then Option.some (Sum.inr ((), x3.fst.snd.fst, x3.fst.snd.snd.fst, ()))
                  else
                    Option.bind (F_heap_Heap_shortest_label_swap ((), x3.fst.snd.fst, x3.fst.snd.snd.fst, ()) s0.snd x2.snd) fun x4 =>
                      Option.some (Sum.inl (((), x4.snd.fst, x4.snd.snd.fst, ()), x2.snd))
          else
            Option.bind
              (F_heap_Heap_shortest_label_before ((), s0.fst.snd.fst, s0.fst.snd.snd.fst, ()) (Go.IntKind.wrap Go.IntKind.i64 (Go.IntKind.wrap Go.IntKind.i64 ((2 : Int) * s0.snd) + (1 : Int))) s0.snd)
              fun x5 =>
              bif !x5.snd then Option.some (Sum.inr ((), x5.fst.snd.fst, x5.fst.snd.snd.fst, ()))
              else
                Option.bind
                  (F_heap_Heap_shortest_label_swap ((), x5.fst.snd.fst, x5.fst.snd.snd.fst, ()) s0.snd
                    (Go.IntKind.wrap Go.IntKind.i64 (Go.IntKind.wrap Go.IntKind.i64 ((2 : Int) * s0.snd) + (1 : Int))))
                  fun x6 => Option.some (Sum.inl (((), x6.snd.fst, x6.snd.snd.fst, ()), Go.IntKind.wrap Go.IntKind.i64 (Go.IntKind.wrap Go.IntKind.i64 ((2 : Int) * s0.snd) + (1 : Int)))))
      (((), a0.snd.fst, a0.snd.snd.fst, ()), (0 : Int)))
    fun x7 => Option.some ((), x7.snd.fst, x7.snd.snd.fst, ())
abbrev F_heap_Heap_shortest_label_sinkA : Pats := (.cons (.var Y193 (.agg (.cons (.fn 104 .nil) (.cons (.own Y195 true) (.cons (.pd Y3) .nil))))) .nil)
abbrev F_heap_Heap_shortest_label_sinkR : Pats := .nil
noncomputable def F_heap_Heap_shortest_label_sinkS : Tr.Spec := { args := F_heap_Heap_shortest_label_sinkA, res := F_heap_Heap_shortest_label_sinkR, fns := [], α := (Unit × List (El Y195) × El Y3 × Unit), f := fun x => F_heap_Heap_shortest_label_sink x.1, unp := fun z => ((z, ()), ()) }
noncomputable def F_heap_Heap_shortest_label_sinkE : Env := { ty := fun n => tyTab.lookup n, mty := fun n => mapTab.lookup n, pk := fun n => (pkTab.lookup n).getD 0, rw := fun n => [].contains n, specs := fun n => (([(104, [F_shortest_lessS]), (112, [F_heap_Heap_shortest_label_beforeS]), (113, [F_heap_Heap_shortest_label_swapS])] : List (Nat × List Tr.Spec)).lookup n).getD [], nt := 41, ks := [] }
noncomputable def F_heap_Heap_shortest_label_sinkB : Code := match Try.f115.body with | some b => b | none => .skip
def F_heap_Heap_shortest_label_sinkH : Hint := (.seq .leaf (.lp ⟨[(0, (.var Y193 (.agg (.cons (.fn 104 .nil) (.cons (.own Y195 false) (.cons (.pd Y3) .nil)))))), (2, (.pd Y3))], [], []⟩ [(.ret, ⟨[(0, (.var Y193 (.agg (.cons (.fn 104 .nil) (.cons (.own Y195 false) (.cons (.pd Y3) .nil))))))], [], []⟩)] (.seq .leaf (.seq .leaf (.seq (.seq .leaf (.cnd (some (⟨[], [], [2]⟩, [(.normal, ⟨[(0, (.var Y193 (.agg (.cons (.fn 104 .nil) (.cons (.own Y195 false) (.cons (.pd Y3) .nil)))))), (3, (.pd Y3))], [], [2]⟩)])) .leaf .leaf)) .leaf)))))
noncomputable def F_heap_Heap_shortest_label_sinkV (a0 : (Unit × List (El Y195) × El Y3 × Unit)) : Option ((Unit × List (El Y195) × El Y3 × Unit)) := evalF F_heap_Heap_shortest_label_sinkE F_heap_Heap_shortest_label_sinkB Try.f115.results F_heap_Heap_shortest_label_sinkH F_heap_Heap_shortest_label_sinkA F_heap_Heap_shortest_label_sinkR (fun y => y.1.1) (a0, ())
theorem F_heap_Heap_shortest_label_sink_eq (a0 : (Unit × List (El Y195) × El Y3 × Unit)) : F_heap_Heap_shortest_label_sinkV a0 = F_heap_Heap_shortest_label_sink a0 := by kernel_rfl
theorem F_heap_Heap_shortest_label_sink_ok : FnOK Try.prog 115 F_heap_Heap_shortest_label_sinkS := evalF_ok (E := F_heap_Heap_shortest_label_sinkE) (fn := Try.f115) (body := F_heap_Heap_shortest_label_sinkB) (hint := F_heap_Heap_shortest_label_sinkH) (pack := fun y => y.1.1) hmix (typesOk_of tab_ok rfl rfl rfl) (specsOk_of (m := [(104, [F_shortest_lessS]), (112, [F_heap_Heap_shortest_label_beforeS]), (113, [F_heap_Heap_shortest_label_swapS])]) ⟨⟨F_shortest_less_ok, trivial⟩, ⟨F_heap_Heap_shortest_label_before_ok, trivial⟩, ⟨F_heap_Heap_shortest_label_swap_ok, trivial⟩, trivial⟩ rfl) (by kernel_rfl) (by kernel_rfl) (by kernel_rfl) (by kernel_rfl) (by kernel_rfl) (by kernel_rfl) (fun y => rfl)
  (fun x z h => (F_heap_Heap_shortest_label_sink_eq x.1).trans h)
noncomputable def F_heap_Heap_shortest_label_Pop : ((Unit × List (El Y195) × El Y3 × Unit)) → Option ((Unit × List (El Y195) × El Y3 × Unit) × El Y178 × El Y4) := fun a0 =>
  Option.bind (F_heap_Heap_shortest_label_Peek ((), a0.snd.fst, a0.snd.snd.fst, ())) fun x0 =>
    bif !x0.snd.snd then Option.some (((), x0.fst.snd.fst, x0.fst.snd.snd.fst, ()), x0.snd.fst, Bool.false)
    else
      Option.bind (F_heap_Heap_shortest_label_swap ((), x0.fst.snd.fst, x0.fst.snd.snd.fst, ()) (0 : Int) (Go.IntKind.wrap Go.IntKind.i64 ((↑(List.length x0.fst.snd.fst) : Int) - (1 : Int))))
        fun x1 =>
        Option.bind (Tr.sliceB (List.length x1.snd.fst) (List.length x1.snd.fst) Option.none (Option.some (Go.IntKind.wrap Go.IntKind.i64 ((↑(List.length x0.fst.snd.fst) : Int) - (1 : Int)))))
          fun x2 =>
          Option.bind (F_heap_Heap_shortest_label_sink ((), List.take x2.snd x1.snd.fst, x1.snd.snd.fst, ())) fun x3 => Option.some (((), x3.snd.fst, x3.snd.snd.fst, ()), x0.snd.fst, Bool.true)
abbrev F_heap_Heap_shortest_label_PopA : Pats := (.cons (.var Y193 (.agg (.cons (.fn 104 .nil) (.cons (.own Y195 true) (.cons (.pd Y3) .nil))))) .nil)
abbrev F_heap_Heap_shortest_label_PopR : Pats := (.cons (.pd Y178) (.cons (.pd Y4) .nil))
noncomputable def F_heap_Heap_shortest_label_PopS : Tr.Spec := { args := F_heap_Heap_shortest_label_PopA, res := F_heap_Heap_shortest_label_PopR, fns := [], α := (Unit × List (El Y195) × El Y3 × Unit) × El Y178 × El Y4, f := fun x => F_heap_Heap_shortest_label_Pop x.1, unp := fun z => ((z.1, ()), (z.2.1, z.2.2, ())) }
noncomputable def F_heap_Heap_shortest_label_PopE : Env := { ty := fun n => tyTab.lookup n, mty := fun n => mapTab.lookup n, pk := fun n => (pkTab.lookup n).getD 0, rw := fun n => [].contains n, specs := fun n => (([(104, [F_shortest_lessS]), (113, [F_heap_Heap_shortest_label_swapS]), (114, [F_heap_Heap_shortest_label_PeekS]), (115, [F_heap_Heap_shortest_label_sinkS])] : List (Nat × List Tr.Spec)).lookup n).getD [], nt := 36, ks := [] }
noncomputable def F_heap_Heap_shortest_label_PopB : Code := match Try.f106.body with | some b => b | none => .skip
def F_heap_Heap_shortest_label_PopH : Hint := .leaf
noncomputable def F_heap_Heap_shortest_label_PopV (a0 : (Unit × List (El Y195) × El Y3 × Unit)) : Option ((Unit × List (El Y195) × El Y3 × Unit) × El Y178 × El Y4) := evalF F_heap_Heap_shortest_label_PopE F_heap_Heap_shortest_label_PopB Try.f106.results F_heap_Heap_shortest_label_PopH F_heap_Heap_shortest_label_PopA F_heap_Heap_shortest_label_PopR (fun y => (y.1.1, y.2.1, y.2.2.1)) (a0, ())
theorem F_heap_Heap_shortest_label_Pop_eq (a0 : (Unit × List (El Y195) × El Y3 × Unit)) : F_heap_Heap_shortest_label_PopV a0 = F_heap_Heap_shortest_label_Pop a0 := by kernel_rfl
theorem F_heap_Heap_shortest_label_Pop_ok : FnOK Try.prog 106 F_heap_Heap_shortest_label_PopS := evalF_ok (E := F_heap_Heap_shortest_label_PopE) (fn := Try.f106) (body := F_heap_Heap_shortest_label_PopB) (hint := F_heap_Heap_shortest_label_PopH) (pack := fun y => (y.1.1, y.2.1, y.2.2.1)) hmix (typesOk_of tab_ok rfl rfl rfl) (specsOk_of (m := [(104, [F_shortest_lessS]), (113, [F_heap_Heap_shortest_label_swapS]), (114, [F_heap_Heap_shortest_label_PeekS]), (115, [F_heap_Heap_shortest_label_sinkS])]) ⟨⟨F_shortest_less_ok, trivial⟩, ⟨F_heap_Heap_shortest_label_swap_ok, trivial⟩, ⟨F_heap_Heap_shortest_label_Peek_ok, trivial⟩, ⟨F_heap_Heap_shortest_label_sink_ok, trivial⟩, trivial⟩ rfl) (by kernel_rfl) (by kernel_rfl) (by kernel_rfl) (by kernel_rfl) (by kernel_rfl) (by kernel_rfl) (fun y => rfl)
  (fun x z h => (F_heap_Heap_shortest_label_Pop_eq x.1).trans h)
noncomputable def F_heap_New_shortest_label_X_shortest_less : (Unit) → Option ((Unit × List (El Y195) × El Y3 × Unit)) := fun _ => Option.some ((), [], (0 : Int), ())
abbrev F_heap_New_shortest_label_X_shortest_lessA : Pats := (.cons (.fn 104 .nil) .nil)
abbrev F_heap_New_shortest_label_X_shortest_lessR : Pats := (.cons (.var Y193 (.agg (.cons (.fn 104 .nil) (.cons (.own Y195 true) (.cons (.pd Y3) .nil))))) .nil)
noncomputable def F_heap_New_shortest_label_X_shortest_lessS : Tr.Spec := { args := F_heap_New_shortest_label_X_shortest_lessA, res := F_heap_New_shortest_label_X_shortest_lessR, fns := [104], α := (Unit × List (El Y195) × El Y3 × Unit), f := fun x => F_heap_New_shortest_label_X_shortest_less x.1, unp := fun z => (((), ()), (z, ())) }
noncomputable def F_heap_New_shortest_label_X_shortest_lessE : Env := { ty := fun n => tyTab.lookup n, mty := fun n => mapTab.lookup n, pk := fun n => (pkTab.lookup n).getD 0, rw := fun n => [].contains n, specs := fun n => (([(104, [F_shortest_lessS])] : List (Nat × List Tr.Spec)).lookup n).getD [], nt := 8, ks := [] }
noncomputable def F_heap_New_shortest_label_X_shortest_lessB : Code := match Try.f103.body with | some b => b | none => .skip
def F_heap_New_shortest_label_X_shortest_lessH : Hint := .leaf
noncomputable def F_heap_New_shortest_label_X_shortest_lessV (a0 : Unit) : Option ((Unit × List (El Y195) × El Y3 × Unit)) := evalF F_heap_New_shortest_label_X_shortest_lessE F_heap_New_shortest_label_X_shortest_lessB Try.f103.results F_heap_New_shortest_label_X_shortest_lessH F_heap_New_shortest_label_X_shortest_lessA F_heap_New_shortest_label_X_shortest_lessR (fun y => y.2.1) (a0, ())
theorem F_heap_New_shortest_label_X_shortest_less_eq (a0 : Unit) : F_heap_New_shortest_label_X_shortest_lessV a0 = F_heap_New_shortest_label_X_shortest_less a0 := by kernel_rfl
theorem F_heap_New_shortest_label_X_shortest_less_ok : FnOK Try.prog 103 F_heap_New_shortest_label_X_shortest_lessS := evalF_ok (E := F_heap_New_shortest_label_X_shortest_lessE) (fn := Try.f103) (body := F_heap_New_shortest_label_X_shortest_lessB) (hint := F_heap_New_shortest_label_X_shortest_lessH) (pack := fun y => y.2.1) hmix (typesOk_of tab_ok rfl rfl rfl) (specsOk_of (m := [(104, [F_shortest_lessS])]) ⟨⟨F_shortest_less_ok, trivial⟩, trivial⟩ rfl) (by kernel_rfl) (by kernel_rfl) (by kernel_rfl) (by kernel_rfl) (by kernel_rfl) (by kernel_rfl) (fun y => rfl)
  (fun x z h => (F_heap_New_shortest_label_X_shortest_less_eq x.1).trans h)
noncomputable def F_shortest_labels : (El Y3) → (List (El Y3 × List (El Y155))) → (El Y3) → Option (List (El Y3 × List (El Y155)) × El Y165) := fun a0 a1 a2 =>
  Option.bind (Tr.guardB (Decidable.decide ((0 : Tr.El (Tr.Ty.int Go.IntKind.i64)) ≤ a0 ∧ a0 ≤ a0 ∧ a0 ≤ (↑Tr.maxApp : Tr.El (Tr.Ty.int Go.IntKind.i64))))) fun _ =>
    Option.bind
      (Tr.run
        (fun s1 =>
          bif Decidable.decide (s1.snd < (↑(List.length (List.replicate (Int.toNat a0) (((0 : Int), (0 : Int), (0 : Int), ())))) : Int)) then
            Option.bind (Tr.inb s1.snd (List.length s1.fst)) fun x2 =>
              Option.bind s1.fst[x2]? fun _ => Option.some (Sum.inl (List.set s1.fst x2 (s1.snd, (-1 : Int), (-1 : Int), ()), Go.IntKind.wrap Go.IntKind.i64 (s1.snd + (1 : Int))))
          else Option.some (Sum.inr s1.fst))
        (List.replicate (Int.toNat a0) (((0 : Int), (0 : Int), (0 : Int), ())), (0 : Int)))
      fun x4 =>
      Option.bind (F_heap_New_shortest_label_X_shortest_less ()) fun x5 =>
        Option.bind (F_heap_Heap_shortest_label_Push ((), x5.snd.fst, x5.snd.snd.fst, ()) (a2, (0 : Int), (0 : Int), ())) fun x6 =>
          Option.bind
            (Tr.run
              (fun s7 =>
                Option.bind (F_heap_Heap_shortest_label_Pop ((), s7.snd.snd.fst, s7.snd.snd.snd.fst, ())) fun x8 =>
                  bif !x8.snd.snd then Option.some (Sum.inr s7.fst)
                  else
                    Option.bind (Tr.inb x8.snd.fst.fst (List.length s7.fst)) fun x9 =>
                      Option.bind s7.fst[x9]? fun x10 =>
                        bif Decidable.decide ((0 : Int) ≤ x10.snd.snd.fst) then Option.some (Sum.inl (s7.fst, (), x8.fst.snd.fst, x8.fst.snd.snd.fst, ()))
                        else
                          Option.bind (Tr.inb x8.snd.fst.fst (List.length s7.fst)) fun x11 =>
                            Option.bind s7.fst[x11]? fun _ =>
                              Option.bind
                                (Tr.run
                                  (fun s13 =>
                                    bif Decidable.decide (s13.snd < (↑(List.length (Option.getD (Tr.amGet (Tr.keyEq Y3) x8.snd.fst.fst a1) [])) : Int)) then
                                      Option.bind (Tr.inb s13.snd (List.length (Option.getD (Tr.amGet (Tr.keyEq Y3) x8.snd.fst.fst a1) []))) fun x14 =>
                                        Option.bind (Option.getD (Tr.amGet (Tr.keyEq Y3) x8.snd.fst.fst a1) [])[x14]? fun x15 =>
                                          Option.bind (Tr.inb x15.snd.fst (List.length (List.set s7.fst x11 x8.snd.fst))) fun x16 =>
                                            Option.bind (List.set s7.fst x11 x8.snd.fst)[x16]? fun x17 =>
                                              bif Decidable.decide (x17.snd.snd.fst < (0 : Int)) then
                                                Option.bind
                                                  (F_heap_Heap_shortest_label_Push ((), s13.fst.snd.fst, s13.fst.snd.snd.fst, ())
                                                    (x15.snd.fst, Go.IntKind.wrap Go.IntKind.i64 (x8.snd.fst.snd.fst + x15.snd.snd.fst),
                                                      Go.IntKind.wrap Go.IntKind.i64 (x8.snd.fst.snd.snd.fst + (1 : Int)), ()))
                                                  fun x18 => Option.some (Sum.inl (((), x18.snd.fst, x18.snd.snd.fst, ()), Go.IntKind.wrap Go.IntKind.i64 (s13.snd + (1 : Int))))
                                              else Option.some (Sum.inl (((), s13.fst.snd.fst, s13.fst.snd.snd.fst, ()), Go.IntKind.wrap Go.IntKind.i64 (s13.snd + (1 : Int))))
                                    else Option.some (Sum.inr ((), s13.fst.snd.fst, s13.fst.snd.snd.fst, ())))
                                  (((), x8.fst.snd.fst, x8.fst.snd.snd.fst, ()), (0 : Int)))
                                fun x19 => Option.some (Sum.inl (List.set s7.fst x11 x8.snd.fst, (), x19.snd.fst, x19.snd.snd.fst, ())))
              (x4, (), x6.snd.fst, x6.snd.snd.fst, ()))
            fun x20 => Option.some (a1, x20)
abbrev F_shortest_labelsA : Pats := (.cons (.pd Y3) (.cons (.mrows Y3 Y155) (.cons (.pd Y3) .nil)))
abbrev F_shortest_labelsR : Pats := (.cons (.pd Y165) .nil)
noncomputable def F_shortest_labelsS : Tr.Spec := { args := F_shortest_labelsA, res := F_shortest_labelsR, fns := [], α := List (El Y3 × List (El Y155)) × El Y165, f := fun x => F_shortest_labels x.1 x.2.1 x.2.2.1, unp := fun z => (((), z.1, (), ()), (z.2, ())) }
noncomputable def F_shortest_labelsE : Env := { ty := fun n => tyTab.lookup n, mty := fun n => mapTab.lookup n, pk := fun n => (pkTab.lookup n).getD 0, rw := fun n => [].contains n, specs := fun n => (([(103, [F_heap_New_shortest_label_X_shortest_lessS]), (104, [F_shortest_lessS]), (105, [F_heap_Heap_shortest_label_PushS]), (106, [F_heap_Heap_shortest_label_PopS])] : List (Nat × List Tr.Spec)).lookup n).getD [], nt := 82, ks := [] }
noncomputable def F_shortest_labelsB : Code := match Try.f91.body with | some b => b | none => .skip
def F_shortest_labelsH : Hint := (.seq .leaf (.seq .leaf (.seq (.seq .leaf (.lp ⟨[(7, (.own Y178 false)), (18, (.pd Y3))], [], [1, 2, 17]⟩ [((.exit 0), ⟨[(7, (.own Y178 false))], [], [1, 2]⟩)] .leaf)) (.seq .leaf (.seq .leaf (.lp ⟨[(7, (.own Y178 false)), (9, (.var Y193 (.agg (.cons (.fn 104 .nil) (.cons (.own Y195 false) (.cons (.pd Y3) .nil))))))], [], [1]⟩ [(.ret, ⟨[(6, (.own Y178 false))], [], [1]⟩)] (.seq .leaf (.seq .leaf (.seq .leaf (.seq .leaf (.seq .leaf (.lp ⟨[(9, (.var Y193 (.agg (.cons (.fn 104 .nil) (.cons (.own Y195 false) (.cons (.pd Y3) .nil)))))), (57, (.pd Y3))], [], [1, 7, 10, 55, 56]⟩ [((.exit 4), ⟨[(9, (.var Y193 (.agg (.cons (.fn 104 .nil) (.cons (.own Y195 false) (.cons (.pd Y3) .nil))))))], [], [1, 7]⟩)] .leaf))))))))))))
noncomputable def F_shortest_labelsV (a0 : El Y3) (a1 : List (El Y3 × List (El Y155))) (a2 : El Y3) : Option (List (El Y3 × List (El Y155)) × El Y165) := evalF F_shortest_labelsE F_shortest_labelsB Try.f91.results F_shortest_labelsH F_shortest_labelsA F_shortest_labelsR (fun y => (y.1.2.1, y.2.1)) (a0, a1, a2, ())
theorem F_shortest_labels_eq (a0 : El Y3) (a1 : List (El Y3 × List (El Y155))) (a2 : El Y3) : F_shortest_labelsV a0 a1 a2 = F_shortest_labels a0 a1 a2 := by kernel_rfl
theorem F_shortest_labels_ok : FnOK Try.prog 91 F_shortest_labelsS := evalF_ok (E := F_shortest_labelsE) (fn := Try.f91) (body := F_shortest_labelsB) (hint := F_shortest_labelsH) (pack := fun y => (y.1.2.1, y.2.1)) hmix (typesOk_of tab_ok rfl rfl rfl) (specsOk_of (m := [(103, [F_heap_New_shortest_label_X_shortest_lessS]), (104, [F_shortest_lessS]), (105, [F_heap_Heap_shortest_label_PushS]), (106, [F_heap_Heap_shortest_label_PopS])]) ⟨⟨F_heap_New_shortest_label_X_shortest_less_ok, trivial⟩, ⟨F_shortest_less_ok, trivial⟩, ⟨F_heap_Heap_shortest_label_Push_ok, trivial⟩, ⟨F_heap_Heap_shortest_label_Pop_ok, trivial⟩, trivial⟩ rfl) (by kernel_rfl) (by kernel_rfl) (by kernel_rfl) (by kernel_rfl) (by kernel_rfl) (by kernel_rfl) (fun y => rfl)
  (fun x z h => (F_shortest_labels_eq x.1 x.2.1 x.2.2.1).trans h)
noncomputable def F_shortest_All : (El Y3) → (El Y153) → Option (El Y138 × El Y38) := fun a0 a1 =>
  Option.bind (F_shortest_check a0 a1 []) fun x0 =>
    bif !Decidable.decide (x0 = (0 : Int)) then Option.some ([], x0)
    else
      Option.bind (F_shortest_neighbors a1 Bool.false) fun x1 =>
        Option.bind (Tr.guardB (Decidable.decide ((0 : Tr.El (Tr.Ty.int Go.IntKind.i64)) ≤ a0 ∧ a0 ≤ a0 ∧ a0 ≤ (↑Tr.maxApp : Tr.El (Tr.Ty.int Go.IntKind.i64))))) fun _ =>
          Option.bind
            (Tr.run
              (fun s3 =>
                bif Decidable.decide (s3.snd.snd < (↑(List.length (List.replicate (Int.toNat a0) (([] : List (El Y3))))) : Int)) then
                  Option.bind (F_shortest_labels a0 s3.fst s3.snd.snd) fun x4 =>
                    Option.bind (F_shortest_lengths x4.snd) fun x5 =>
                      Option.bind (Tr.inb s3.snd.snd (List.length s3.snd.fst)) fun x6 =>
                        Option.bind s3.snd.fst[x6]? fun _ => Option.some (Sum.inl (x4.fst, List.set s3.snd.fst x6 x5, Go.IntKind.wrap Go.IntKind.i64 (s3.snd.snd + (1 : Int))))
                else Option.some (Sum.inr s3.snd.fst))
              (x1, List.replicate (Int.toNat a0) (([] : List (El Y3))), (0 : Int)))
            fun x8 => Option.some (x8, (0 : Int))
abbrev F_shortest_AllA : Pats := (.cons (.pd Y3) (.cons (.pd Y153) .nil))
abbrev F_shortest_AllR : Pats := (.cons (.pd Y138) (.cons (.pd Y38) .nil))
noncomputable def F_shortest_AllS : Tr.Spec := { args := F_shortest_AllA, res := F_shortest_AllR, fns := [], α := El Y138 × El Y38, f := fun x => F_shortest_All x.1 x.2.1, unp := fun z => (((), (), ()), (z.1, z.2, ())) }
noncomputable def F_shortest_AllE : Env := { ty := fun n => tyTab.lookup n, mty := fun n => mapTab.lookup n, pk := fun n => (pkTab.lookup n).getD 0, rw := fun n => [].contains n, specs := fun n => (([(88, [F_shortest_checkS]), (89, [F_shortest_neighborsS]), (90, [F_shortest_lengthsS]), (91, [F_shortest_labelsS])] : List (Nat × List Tr.Spec)).lookup n).getD [], nt := 35, ks := [] }
noncomputable def F_shortest_AllB : Code := match Try.f84.body with | some b => b | none => .skip
def F_shortest_AllH : Hint := (.seq .leaf (.seq .leaf (.seq .leaf (.seq .leaf (.seq .leaf (.seq (.seq .leaf (.lp ⟨[(7, (.mrows Y3 Y155)), (8, (.own Y47 false)), (22, (.pd Y3))], [], [0, 21]⟩ [((.exit 0), ⟨[(8, (.own Y47 false))], [], []⟩)] .leaf)) .leaf))))))
noncomputable def F_shortest_AllV (a0 : El Y3) (a1 : El Y153) : Option (El Y138 × El Y38) := evalF F_shortest_AllE F_shortest_AllB Try.f84.results F_shortest_AllH F_shortest_AllA F_shortest_AllR (fun y => (y.2.1, y.2.2.1)) (a0, a1, ())
theorem F_shortest_All_eq (a0 : El Y3) (a1 : El Y153) : F_shortest_AllV a0 a1 = F_shortest_All a0 a1 := by kernel_rfl
theorem F_shortest_All_ok : FnOK Try.prog 84 F_shortest_AllS := evalF_ok (E := F_shortest_AllE) (fn := Try.f84) (body := F_shortest_AllB) (hint := F_shortest_AllH) (pack := fun y => (y.2.1, y.2.2.1)) hmix (typesOk_of tab_ok rfl rfl rfl) (specsOk_of (m := [(88, [F_shortest_checkS]), (89, [F_shortest_neighborsS]), (90, [F_shortest_lengthsS]), (91, [F_shortest_labelsS])]) ⟨⟨F_shortest_check_ok, trivial⟩, ⟨F_shortest_neighbors_ok, trivial⟩, ⟨F_shortest_lengths_ok, trivial⟩, ⟨F_shortest_labels_ok, trivial⟩, trivial⟩ rfl) (by kernel_rfl) (by kernel_rfl) (by kernel_rfl) (by kernel_rfl) (by kernel_rfl) (by kernel_rfl) (fun y => rfl)
  (fun x z h => (F_shortest_All_eq x.1 x.2.1).trans h)
noncomputable def F_footpath_distances : (El Y26) → (El Y3) → (El Y4) → Option (El Y138) := fun a0 a1 a2 =>
  Option.bind
    (Tr.run
      (fun s0 =>
        bif Decidable.decide (s0.snd < (↑(List.length a0) : Int)) then
          Option.bind (Tr.idx a0 s0.snd) fun x1 =>
            Option.bind (bif a2 then Option.some !x1.snd.snd.snd.fst else Option.some Bool.false) fun x2 =>
              bif x2 then Option.some (Sum.inl (s0.fst, Go.IntKind.wrap Go.IntKind.i64 (s0.snd + (1 : Int))))
              else
                Option.bind
                  (bif !Option.isSome (Tr.amGet (Tr.keyEq Y146) (x1.fst, x1.snd.fst, Bool.false, ()) s0.fst) then Option.some Bool.true
                  else Option.some (Decidable.decide (x1.snd.snd.fst < Option.getD (Tr.amGet (Tr.keyEq Y146) (x1.fst, x1.snd.fst, Bool.false, ()) s0.fst) ((0 : Int)))))
                  fun x3 =>
                  bif x3 then Option.some (Sum.inl (Tr.amSet (Tr.keyEq Y146) (x1.fst, x1.snd.fst, Bool.false, ()) x1.snd.snd.fst s0.fst, Go.IntKind.wrap Go.IntKind.i64 (s0.snd + (1 : Int))))
                  else Option.some (Sum.inl (s0.fst, Go.IntKind.wrap Go.IntKind.i64 (s0.snd + (1 : Int))))
        else Option.some (Sum.inr s0.fst))
      ([], (0 : Int)))
    fun x4 =>
    Option.bind
      (Tr.guardB
        (Decidable.decide ((0 : Tr.El (Tr.Ty.int Go.IntKind.i64)) ≤ (0 : Int) ∧ (0 : Int) ≤ (↑(List.length x4) : Int) ∧ (↑(List.length x4) : Int) ≤ (↑Tr.maxApp : Tr.El (Tr.Ty.int Go.IntKind.i64)))))
      fun _ =>
      Tr.drun (fun s6 => bif List.isEmpty s6.snd then (1 : Nat) else List.length s6.snd)
        (fun s6 i7 =>
          bif List.isEmpty s6.snd then Option.some (Sum.inr s6.fst)
          else
            Option.bind s6.snd[i7]? fun x8 =>
              Option.bind (Tr.guardB (Decidable.decide (List.length s6.fst + List.length [(x8.fst.fst, x8.fst.snd.fst, x8.snd, ())] ≤ Tr.maxApp))) fun _ =>
                Option.some (Sum.inl (s6.fst ++ [(x8.fst.fst, x8.fst.snd.fst, x8.snd, ())], List.eraseIdx s6.snd i7)))
        (fun o10 => Option.bind (F_shortest_All a1 o10) fun x11 => Option.some x11.fst) (List.replicate (Int.toNat (0 : Int)) (((0 : Int), (0 : Int), (0 : Int), ())), x4)
abbrev F_footpath_distancesA : Pats := (.cons (.pd Y26) (.cons (.pd Y3) (.cons (.pd Y4) .nil)))
abbrev F_footpath_distancesR : Pats := (.cons (.pd Y138) .nil)
noncomputable def F_footpath_distancesS : Tr.Spec := { args := F_footpath_distancesA, res := F_footpath_distancesR, fns := [], α := El Y138, f := fun x => F_footpath_distances x.1 x.2.1 x.2.2.1, unp := fun z => (((), (), (), ()), (z, ())) }
noncomputable def F_footpath_distancesE : Env := { ty := fun n => tyTab.lookup n, mty := fun n => mapTab.lookup n, pk := fun n => (pkTab.lookup n).getD 0, rw := fun n => [].contains n, specs := fun n => (([(84, [F_shortest_AllS])] : List (Nat × List Tr.Spec)).lookup n).getD [], nt := 81, ks := [] }
noncomputable def F_footpath_distancesB : Code := match Try.f78.body with | some b => b | none => .skip
def F_footpath_distancesH : Hint := (.seq .leaf (.seq .leaf (.seq (.seq .leaf (.lp ⟨[(7, (.map Y146 Y3)), (21, (.pd Y3))], [], [1, 2, 19, 20]⟩ [((.exit 0), ⟨[(7, (.map Y146 Y3))], [], [1]⟩)] (.seq .leaf (.seq .leaf (.seq (.seq .leaf (.seq (.seq (.reg [(30, Y4)]) .leaf) (.seq .leaf (.seq .leaf (.seq (.reg [(49, Y4)]) .leaf))))) .leaf))))) (.seq .leaf (.seq (.seq .leaf (.lpd 59 ⟨[(13, (.own Y155 false)), (59, (.it Y146 Y3))], [], [1]⟩ [((.exit 2), ⟨[(13, (.own Y155 false))], [], [1]⟩)] .leaf)) .leaf)))))
noncomputable def F_footpath_distancesV (a0 : El Y26) (a1 : El Y3) (a2 : El Y4) : Option (El Y138) := evalF F_footpath_distancesE F_footpath_distancesB Try.f78.results F_footpath_distancesH F_footpath_distancesA F_footpath_distancesR (fun y => y.2.1) (a0, a1, a2, ())
theorem F_footpath_distances_eq (a0 : El Y26) (a1 : El Y3) (a2 : El Y4) : F_footpath_distancesV a0 a1 a2 = F_footpath_distances a0 a1 a2 := by kernel_rfl
theorem F_footpath_distances_ok : FnOK Try.prog 78 F_footpath_distancesS := evalF_ok (E := F_footpath_distancesE) (fn := Try.f78) (body := F_footpath_distancesB) (hint := F_footpath_distancesH) (pack := fun y => y.2.1) hmix (typesOk_of tab_ok rfl rfl rfl) (specsOk_of (m := [(84, [F_shortest_AllS])]) ⟨⟨F_shortest_All_ok, trivial⟩, trivial⟩ rfl) (by kernel_rfl) (by kernel_rfl) (by kernel_rfl) (by kernel_rfl) (by kernel_rfl) (by kernel_rfl) (fun y => rfl)
  (fun x z h => (F_footpath_distances_eq x.1 x.2.1 x.2.2.1).trans h)
noncomputable def F_cmp_Or_int : (El Y47) → Option (El Y3) := fun a0 =>
  Option.bind
    (Tr.run
      (fun s0 =>
        bif Decidable.decide (s0 < (↑(List.length a0) : Int)) then
          Option.bind (Tr.idx a0 s0) fun x1 =>
            bif !Decidable.decide (x1 = (0 : Int)) then Option.some (Sum.inr (Sum.inr x1)) else Option.some (Sum.inl (Go.IntKind.wrap Go.IntKind.i64 (s0 + (1 : Int))))
        else Option.some (Sum.inr (Sum.inl ())))
      (0 : Int))
    fun x2 => Sum.elim (fun _ => Option.some (0 : Int)) (fun y4 => Option.some y4) x2
abbrev F_cmp_Or_intA : Pats := (.cons (.pd Y47) .nil)
abbrev F_cmp_Or_intR : Pats := (.cons (.pd Y3) .nil)
noncomputable def F_cmp_Or_intS : Tr.Spec := { args := F_cmp_Or_intA, res := F_cmp_Or_intR, fns := [], α := El Y3, f := fun x => F_cmp_Or_int x.1, unp := fun z => (((), ()), (z, ())) }
noncomputable def F_cmp_Or_intE : Env := { ty := fun n => tyTab.lookup n, mty := fun n => mapTab.lookup n, pk := fun n => (pkTab.lookup n).getD 0, rw := fun n => [].contains n, specs := fun n => (([] : List (Nat × List Tr.Spec)).lookup n).getD [], nt := 18, ks := [] }
noncomputable def F_cmp_Or_intB : Code := match Try.f82.body with | some b => b | none => .skip
def F_cmp_Or_intH : Hint := (.seq .leaf (.seq .leaf (.seq (.seq .leaf (.lp ⟨[(8, (.pd Y3))], [], [3, 6, 7]⟩ [((.exit 0), ⟨[], [], [3]⟩), (.ret, ⟨[(2, (.pd Y3))], [], []⟩)] .leaf)) .leaf)))
noncomputable def F_cmp_Or_intV (a0 : El Y47) : Option (El Y3) := evalF F_cmp_Or_intE F_cmp_Or_intB Try.f82.results F_cmp_Or_intH F_cmp_Or_intA F_cmp_Or_intR (fun y => y.2.1) (a0, ())
theorem F_cmp_Or_int_eq (a0 : El Y47) : F_cmp_Or_intV a0 = F_cmp_Or_int a0 := by kernel_rfl
theorem F_cmp_Or_int_ok : FnOK Try.prog 82 F_cmp_Or_intS := evalF_ok (E := F_cmp_Or_intE) (fn := Try.f82) (body := F_cmp_Or_intB) (hint := F_cmp_Or_intH) (pack := fun y => y.2.1) hmix (typesOk_of tab_ok rfl rfl rfl) (specsOk_of (m := []) trivial rfl) (by kernel_rfl) (by kernel_rfl) (by kernel_rfl) (by kernel_rfl) (by kernel_rfl) (by kernel_rfl) (fun y => rfl)
  (fun x z h => (F_cmp_Or_int_eq x.1).trans h)
noncomputable def F_cmp_isNaN_int : (El Y3) → Option (El Y4) := fun a0 => Option.some !Decidable.decide (a0 = a0)
abbrev F_cmp_isNaN_intA : Pats := (.cons (.pd Y3) .nil)
abbrev F_cmp_isNaN_intR : Pats := (.cons (.pd Y4) .nil)
noncomputable def F_cmp_isNaN_intS : Tr.Spec := { args := F_cmp_isNaN_intA, res := F_cmp_isNaN_intR, fns := [], α := El Y4, f := fun x => F_cmp_isNaN_int x.1, unp := fun z => (((), ()), (z, ())) }
noncomputable def F_cmp_isNaN_intE : Env := { ty := fun n => tyTab.lookup n, mty := fun n => mapTab.lookup n, pk := fun n => (pkTab.lookup n).getD 0, rw := fun n => [].contains n, specs := fun n => (([] : List (Nat × List Tr.Spec)).lookup n).getD [], nt := 6, ks := [] }
noncomputable def F_cmp_isNaN_intB : Code := match Try.f87.body with | some b => b | none => .skip
def F_cmp_isNaN_intH : Hint := .leaf
noncomputable def F_cmp_isNaN_intV (a0 : El Y3) : Option (El Y4) := evalF F_cmp_isNaN_intE F_cmp_isNaN_intB Try.f87.results F_cmp_isNaN_intH F_cmp_isNaN_intA F_cmp_isNaN_intR (fun y => y.2.1) (a0, ())
theorem F_cmp_isNaN_int_eq (a0 : El Y3) : F_cmp_isNaN_intV a0 = F_cmp_isNaN_int a0 := by kernel_rfl
theorem F_cmp_isNaN_int_ok : FnOK Try.prog 87 F_cmp_isNaN_intS := evalF_ok (E := F_cmp_isNaN_intE) (fn := Try.f87) (body := F_cmp_isNaN_intB) (hint := F_cmp_isNaN_intH) (pack := fun y => y.2.1) hmix (typesOk_of tab_ok rfl rfl rfl) (specsOk_of (m := []) trivial rfl) (by kernel_rfl) (by kernel_rfl) (by kernel_rfl) (by kernel_rfl) (by kernel_rfl) (by kernel_rfl) (fun y => rfl)
  (fun x z h => (F_cmp_isNaN_int_eq x.1).trans h)
noncomputable def F_cmp_Compare_int : (El Y3) → (El Y3) → Option (El Y3) := fun a0 a1 =>
  Option.bind (F_cmp_isNaN_int a0) fun x0 =>
    Option.bind (F_cmp_isNaN_int a1) fun x1 =>
      bif x0 then bif x1 then Option.some (0 : Int) else Option.some (-1 : Int)
      else bif x1 then Option.some (1 : Int) else bif Decidable.decide (a0 < a1) then Option.some (-1 : Int) else bif Decidable.decide (a1 < a0) then Option.some (1 : Int) else Option.some (0 : Int)
abbrev F_cmp_Compare_intA : Pats := (.cons (.pd Y3) (.cons (.pd Y3) .nil))
abbrev F_cmp_Compare_intR : Pats := (.cons (.pd Y3) .nil)
noncomputable def F_cmp_Compare_intS : Tr.Spec := { args := F_cmp_Compare_intA, res := F_cmp_Compare_intR, fns := [], α := El Y3, f := fun x => F_cmp_Compare_int x.1 x.2.1, unp := fun z => (((), (), ()), (z, ())) }
noncomputable def F_cmp_Compare_intE : Env := { ty := fun n => tyTab.lookup n, mty := fun n => mapTab.lookup n, pk := fun n => (pkTab.lookup n).getD 0, rw := fun n => [].contains n, specs := fun n => (([(87, [F_cmp_isNaN_intS])] : List (Nat × List Tr.Spec)).lookup n).getD [], nt := 20, ks := [] }
noncomputable def F_cmp_Compare_intB : Code := match Try.f83.body with | some b => b | none => .skip
def F_cmp_Compare_intH : Hint := .leaf
noncomputable def F_cmp_Compare_intV (a0 : El Y3) (a1 : El Y3) : Option (El Y3) := evalF F_cmp_Compare_intE F_cmp_Compare_intB Try.f83.results F_cmp_Compare_intH F_cmp_Compare_intA F_cmp_Compare_intR (fun y => y.2.1) (a0, a1, ())
theorem F_cmp_Compare_int_eq (a0 : El Y3) (a1 : El Y3) : F_cmp_Compare_intV a0 a1 = F_cmp_Compare_int a0 a1 := by kernel_rfl
theorem F_cmp_Compare_int_ok : FnOK Try.prog 83 F_cmp_Compare_intS := evalF_ok (E := F_cmp_Compare_intE) (fn := Try.f83) (body := F_cmp_Compare_intB) (hint := F_cmp_Compare_intH) (pack := fun y => y.2.1) hmix (typesOk_of tab_ok rfl rfl rfl) (specsOk_of (m := [(87, [F_cmp_isNaN_intS])]) ⟨⟨F_cmp_isNaN_int_ok, trivial⟩, trivial⟩ rfl) (by kernel_rfl) (by kernel_rfl) (by kernel_rfl) (by kernel_rfl) (by kernel_rfl) (by kernel_rfl) (fun y => rfl)
  (fun x z h => (F_cmp_Compare_int_eq x.1 x.2.1).trans h)
noncomputable def F_footpath_closure_2 : (El Y128) → (El Y128) → Option (El Y3) := fun a0 a1 =>
  Option.bind (F_cmp_Compare_int a0.fst a1.fst) fun x0 =>
    Option.bind (F_cmp_Compare_int a0.snd.fst a1.snd.fst) fun x1 =>
      Option.bind (F_cmp_Compare_int a0.snd.snd.fst a1.snd.snd.fst) fun x2 => Option.bind (F_cmp_Or_int [x0, x1, x2]) fun x3 => Option.some x3
abbrev F_footpath_closure_2A : Pats := (.cons (.pd Y128) (.cons (.pd Y128) .nil))
abbrev F_footpath_closure_2R : Pats := (.cons (.pd Y3) .nil)
noncomputable def F_footpath_closure_2S : Tr.Spec := { args := F_footpath_closure_2A, res := F_footpath_closure_2R, fns := [], α := El Y3, f := fun x => F_footpath_closure_2 x.1 x.2.1, unp := fun z => (((), (), ()), (z, ())) }
noncomputable def F_footpath_closure_2E : Env := { ty := fun n => tyTab.lookup n, mty := fun n => mapTab.lookup n, pk := fun n => (pkTab.lookup n).getD 0, rw := fun n => [].contains n, specs := fun n => (([(82, [F_cmp_Or_intS]), (83, [F_cmp_Compare_intS])] : List (Nat × List Tr.Spec)).lookup n).getD [], nt := 22, ks := [] }
noncomputable def F_footpath_closure_2B : Code := match Try.f81.body with | some b => b | none => .skip
def F_footpath_closure_2H : Hint := .leaf
noncomputable def F_footpath_closure_2V (a0 : El Y128) (a1 : El Y128) : Option (El Y3) := evalF F_footpath_closure_2E F_footpath_closure_2B Try.f81.results F_footpath_closure_2H F_footpath_closure_2A F_footpath_closure_2R (fun y => y.2.1) (a0, a1, ())
theorem F_footpath_closure_2_eq (a0 : El Y128) (a1 : El Y128) : F_footpath_closure_2V a0 a1 = F_footpath_closure_2 a0 a1 := by kernel_rfl
theorem F_footpath_closure_2_ok : FnOK Try.prog 81 F_footpath_closure_2S := evalF_ok (E := F_footpath_closure_2E) (fn := Try.f81) (body := F_footpath_closure_2B) (hint := F_footpath_closure_2H) (pack := fun y => y.2.1) hmix (typesOk_of tab_ok rfl rfl rfl) (specsOk_of (m := [(82, [F_cmp_Or_intS]), (83, [F_cmp_Compare_intS])]) ⟨⟨F_cmp_Or_int_ok, trivial⟩, ⟨F_cmp_Compare_int_ok, trivial⟩, trivial⟩ rfl) (by kernel_rfl) (by kernel_rfl) (by kernel_rfl) (by kernel_rfl) (by kernel_rfl) (by kernel_rfl) (fun y => rfl)
  (fun x z h => (F_footpath_closure_2_eq x.1 x.2.1).trans h)
noncomputable def F_math_bits_Len32 : (El Y175) → Option (El Y3) := fun a0 =>
  Option.bind
    (bif Decidable.decide ((65536 : Int) ≤ a0) then Option.some (Int.fdiv a0 ((2 : Int) ^ Min.min (Int.toNat (16 : Int)) (Go.IntKind.bits Go.IntKind.u32)), (16 : Int))
    else Option.some (a0, (0 : Int)))
    fun x0 =>
    Option.bind
      (bif Decidable.decide ((256 : Int) ≤ x0.fst) then
        Option.some (Int.fdiv x0.fst ((2 : Int) ^ Min.min (Int.toNat (8 : Int)) (Go.IntKind.bits Go.IntKind.u32)), Go.IntKind.wrap Go.IntKind.i64 (x0.snd + (8 : Int)))
      else Option.some (x0.fst, x0.snd))
      fun x1 =>
      Option.bind
        (Tr.idx
          [(0 : UInt8), (1 : UInt8), (2 : UInt8), (2 : UInt8), (3 : UInt8), (3 : UInt8), (3 : UInt8), (3 : UInt8), (4 : UInt8), (4 : UInt8), (4 : UInt8), (4 : UInt8), (4 : UInt8), (4 : UInt8),
            (4 : UInt8), (4 : UInt8), (5 : UInt8), (5 : UInt8), (5 : UInt8), (5 : UInt8), (5 : UInt8), (5 : UInt8), (5 : UInt8), (5 : UInt8), (5 : UInt8), (5 : UInt8), (5 : UInt8), (5 : UInt8),
            (5 : UInt8), (5 : UInt8), (5 : UInt8), (5 : UInt8), (6 : UInt8), (6 : UInt8), (6 : UInt8), (6 : UInt8), (6 : UInt8), (6 : UInt8), (6 : UInt8), (6 : UInt8), (6 : UInt8), (6 : UInt8),
            (6 : UInt8), (6 : UInt8), (6 : UInt8), (6 : UInt8), (6 : UInt8), (6 : UInt8), (6 : UInt8), (6 : UInt8), (6 : UInt8), (6 : UInt8), (6 : UInt8), (6 : UInt8), (6 : UInt8), (6 : UInt8),
            (6 : UInt8), (6 : UInt8), (6 : UInt8), (6 : UInt8), (6 : UInt8), (6 : UInt8), (6 : UInt8), (6 : UInt8), (7 : UInt8), (7 : UInt8), (7 : UInt8), (7 : UInt8), (7 : UInt8), (7 : UInt8),
            (7 : UInt8), (7 : UInt8), (7 : UInt8), (7 : UInt8), (7 : UInt8), (7 : UInt8), (7 : UInt8), (7 : UInt8), (7 : UInt8), (7 : UInt8), (7 : UInt8), (7 : UInt8), (7 : UInt8), (7 : UInt8),
            (7 : UInt8), (7 : UInt8), (7 : UInt8), (7 : UInt8), (7 : UInt8), (7 : UInt8), (7 : UInt8), (7 : UInt8), (7 : UInt8), (7 : UInt8), (7 : UInt8), (7 : UInt8), (7 : UInt8), (7 : UInt8),
            (7 : UInt8), (7 : UInt8), (7 : UInt8), (7 : UInt8), (7 : UInt8), (7 : UInt8), (7 : UInt8), (7 : UInt8), (7 : UInt8), (7 : UInt8), (7 : UInt8), (7 : UInt8), (7 : UInt8), (7 : UInt8),
            (7 : UInt8), (7 : UInt8), (7 : UInt8), (7 : UInt8), (7 : UInt8), (7 : UInt8), (7 : UInt8), (7 : UInt8), (7 : UInt8), (7 : UInt8), (7 : UInt8), (7 : UInt8), (7 : UInt8), (7 : UInt8),
            (7 : UInt8), (7 : UInt8), (8 : UInt8), (8 : UInt8), (8 : UInt8), (8 : UInt8), (8 : UInt8), (8 : UInt8), (8 : UInt8), (8 : UInt8), (8 : UInt8), (8 : UInt8), (8 : UInt8), (8 : UInt8),
            (8 : UInt8), (8 : UInt8), (8 : UInt8), (8 : UInt8), (8 : UInt8), (8 : UInt8), (8 : UInt8), (8 : UInt8), (8 : UInt8), (8 : UInt8), (8 : UInt8), (8 : UInt8), (8 : UInt8), (8 : UInt8),
            (8 : UInt8), (8 : UInt8), (8 : UInt8), (8 : UInt8), (8 : UInt8), (8 : UInt8), (8 : UInt8), (8 : UInt8), (8 : UInt8), (8 : UInt8), (8 : UInt8), (8 : UInt8), (8 : UInt8), (8 : UInt8),
            (8 : UInt8), (8 : UInt8), (8 : UInt8), (8 : UInt8), (8 : UInt8), (8 : UInt8), (8 : UInt8), (8 : UInt8), (8 : UInt8), (8 : UInt8), (8 : UInt8), (8 : UInt8), (8 : UInt8), (8 : UInt8),
            (8 : UInt8), (8 : UInt8), (8 : UInt8), (8 : UInt8), (8 : UInt8), (8 : UInt8), (8 : UInt8), (8 : UInt8), (8 : UInt8), (8 : UInt8), (8 : UInt8), (8 : UInt8), (8 : UInt8), (8 : UInt8),
            (8 : UInt8), (8 : UInt8), (8 : UInt8), (8 : UInt8), (8 : UInt8), (8 : UInt8), (8 : UInt8), (8 : UInt8), (8 : UInt8), (8 : UInt8), (8 : UInt8), (8 : UInt8), (8 : UInt8), (8 : UInt8),
            (8 : UInt8), (8 : UInt8), (8 : UInt8), (8 : UInt8), (8 : UInt8), (8 : UInt8), (8 : UInt8), (8 : UInt8), (8 : UInt8), (8 : UInt8), (8 : UInt8), (8 : UInt8), (8 : UInt8), (8 : UInt8),
            (8 : UInt8), (8 : UInt8), (8 : UInt8), (8 : UInt8), (8 : UInt8), (8 : UInt8), (8 : UInt8), (8 : UInt8), (8 : UInt8), (8 : UInt8), (8 : UInt8), (8 : UInt8), (8 : UInt8), (8 : UInt8),
            (8 : UInt8), (8 : UInt8), (8 : UInt8), (8 : UInt8), (8 : UInt8), (8 : UInt8), (8 : UInt8), (8 : UInt8), (8 : UInt8), (8 : UInt8), (8 : UInt8), (8 : UInt8), (8 : UInt8), (8 : UInt8),
            (8 : UInt8), (8 : UInt8), (8 : UInt8), (8 : UInt8)]
          (Go.IntKind.wrap Go.IntKind.u8 x1.fst))
        fun x2 => Option.some (Go.IntKind.wrap Go.IntKind.i64 (x1.snd + Go.IntKind.wrap Go.IntKind.i64 (↑(UInt8.toNat x2) : Int)))
abbrev F_math_bits_Len32A : Pats := (.cons (.pd Y175) .nil)
abbrev F_math_bits_Len32R : Pats := (.cons (.pd Y3) .nil)
noncomputable def F_math_bits_Len32S : Tr.Spec := { args := F_math_bits_Len32A, res := F_math_bits_Len32R, fns := [], α := El Y3, f := fun x => F_math_bits_Len32 x.1, unp := fun z => (((), ()), (z, ())) }
noncomputable def F_math_bits_Len32E : Env := { ty := fun n => tyTab.lookup n, mty := fun n => mapTab.lookup n, pk := fun n => (pkTab.lookup n).getD 0, rw := fun n => [].contains n, specs := fun n => (([] : List (Nat × List Tr.Spec)).lookup n).getD [], nt := 19, ks := [] }
noncomputable def F_math_bits_Len32B : Code := match Try.f100.body with | some b => b | none => .skip
def F_math_bits_Len32H : Hint := (.seq .leaf (.seq (.seq .leaf (.cnd (some (⟨[], [], []⟩, [(.normal, ⟨[(0, (.pd Y175)), (2, (.pd Y3))], [], []⟩)])) .leaf .leaf)) (.seq (.seq .leaf (.cnd (some (⟨[], [], []⟩, [(.normal, ⟨[(0, (.pd Y175)), (2, (.pd Y3))], [], []⟩)])) .leaf .leaf)) .leaf)))
noncomputable def F_math_bits_Len32V (a0 : El Y175) : Option (El Y3) := evalF F_math_bits_Len32E F_math_bits_Len32B Try.f100.results F_math_bits_Len32H F_math_bits_Len32A F_math_bits_Len32R (fun y => y.2.1) (a0, ())
theorem F_math_bits_Len32_eq (a0 : El Y175) : F_math_bits_Len32V a0 = F_math_bits_Len32 a0 := by kernel_rfl
theorem F_math_bits_Len32_ok : FnOK Try.prog 100 F_math_bits_Len32S := evalF_ok (E := F_math_bits_Len32E) (fn := Try.f100) (body := F_math_bits_Len32B) (hint := F_math_bits_Len32H) (pack := fun y => y.2.1) hmix (typesOk_of tab_ok rfl rfl rfl) (specsOk_of (m := []) trivial rfl) (by kernel_rfl) (by kernel_rfl) (by kernel_rfl) (by kernel_rfl) (by kernel_rfl) (by kernel_rfl) (fun y => rfl)
  (fun x z h => (F_math_bits_Len32_eq x.1).trans h)
noncomputable def F_math_bits_Len64 : (El Y73) → Option (El Y3) := fun a0 =>
  Option.bind
    (bif Decidable.decide ((4294967296 : Int) ≤ a0) then Option.some (Int.fdiv a0 ((2 : Int) ^ Min.min (Int.toNat (32 : Int)) (Go.IntKind.bits Go.IntKind.u64)), (32 : Int))
    else Option.some (a0, (0 : Int)))
    fun x0 =>
    Option.bind
      (bif Decidable.decide ((65536 : Int) ≤ x0.fst) then
        Option.some (Int.fdiv x0.fst ((2 : Int) ^ Min.min (Int.toNat (16 : Int)) (Go.IntKind.bits Go.IntKind.u64)), Go.IntKind.wrap Go.IntKind.i64 (x0.snd + (16 : Int)))
      else Option.some (x0.fst, x0.snd))
      fun x1 =>
      Option.bind
        (bif Decidable.decide ((256 : Int) ≤ x1.fst) then
          Option.some (Int.fdiv x1.fst ((2 : Int) ^ Min.min (Int.toNat (8 : Int)) (Go.IntKind.bits Go.IntKind.u64)), Go.IntKind.wrap Go.IntKind.i64 (x1.snd + (8 : Int)))
        else Option.some (x1.fst, x1.snd))
        fun x2 =>
        Option.bind
          (Tr.idx
            [(0 : UInt8), (1 : UInt8), (2 : UInt8), (2 : UInt8), (3 : UInt8), (3 : UInt8), (3 : UInt8), (3 : UInt8), (4 : UInt8), (4 : UInt8), (4 : UInt8), (4 : UInt8), (4 : UInt8), (4 : UInt8),
              (4 : UInt8), (4 : UInt8), (5 : UInt8), (5 : UInt8), (5 : UInt8), (5 : UInt8), (5 : UInt8), (5 : UInt8), (5 : UInt8), (5 : UInt8), (5 : UInt8), (5 : UInt8), (5 : UInt8), (5 : UInt8),
              (5 : UInt8), (5 : UInt8), (5 : UInt8), (5 : UInt8), (6 : UInt8), (6 : UInt8), (6 : UInt8), (6 : UInt8), (6 : UInt8), (6 : UInt8), (6 : UInt8), (6 : UInt8), (6 : UInt8), (6 : UInt8),
              (6 : UInt8), (6 : UInt8), (6 : UInt8), (6 : UInt8), (6 : UInt8), (6 : UInt8), (6 : UInt8), (6 : UInt8), (6 : UInt8), (6 : UInt8), (6 : UInt8), (6 : UInt8), (6 : UInt8), (6 : UInt8),
              (6 : UInt8), (6 : UInt8), (6 : UInt8), (6 : UInt8), (6 : UInt8), (6 : UInt8), (6 : UInt8), (6 : UInt8), (7 : UInt8), (7 : UInt8), (7 : UInt8), (7 : UInt8), (7 : UInt8), (7 : UInt8),
              (7 : UInt8), (7 : UInt8), (7 : UInt8), (7 : UInt8), (7 : UInt8), (7 : UInt8), (7 : UInt8), (7 : UInt8), (7 : UInt8), (7 : UInt8), (7 : UInt8), (7 : UInt8), (7 : UInt8), (7 : UInt8),
              (7 : UInt8), (7 : UInt8), (7 : UInt8), (7 : UInt8), (7 : UInt8), (7 : UInt8), (7 : UInt8), (7 : UInt8), (7 : UInt8), (7 : UInt8), (7 : UInt8), (7 : UInt8), (7 : UInt8), (7 : UInt8),
              (7 : UInt8), (7 : UInt8), (7 : UInt8), (7 : UInt8), (7 : UInt8), (7 : UInt8), (7 : UInt8), (7 : UInt8), (7 : UInt8), (7 : UInt8), (7 : UInt8), (7 : UInt8), (7 : UInt8), (7 : UInt8),
              (7 : UInt8), (7 : UInt8), (7 : UInt8), (7 : UInt8), (7 : UInt8), (7 : UInt8), (7 : UInt8), (7 : UInt8), (7 : UInt8), (7 : UInt8), (7 : UInt8), (7 : UInt8), (7 : UInt8), (7 : UInt8),
              (7 : UInt8), (7 : UInt8), (8 : UInt8), (8 : UInt8), (8 : UInt8), (8 : UInt8), (8 : UInt8), (8 : UInt8), (8 : UInt8), (8 : UInt8), (8 : UInt8), (8 : UInt8), (8 : UInt8), (8 : UInt8),
              (8 : UInt8), (8 : UInt8), (8 : UInt8), (8 : UInt8), (8 : UInt8), (8 : UInt8), (8 : UInt8), (8 : UInt8), (8 : UInt8), (8 : UInt8), (8 : UInt8), (8 : UInt8), (8 : UInt8), (8 : UInt8),
              (8 : UInt8), (8 : UInt8), (8 : UInt8), (8 : UInt8), (8 : UInt8), (8 : UInt8), (8 : UInt8), (8 : UInt8), (8 : UInt8), (8 : UInt8), (8 : UInt8), (8 : UInt8), (8 : UInt8), (8 : UInt8),
              (8 : UInt8), (8 : UInt8), (8 : UInt8), (8 : UInt8), (8 : UInt8), (8 : UInt8), (8 : UInt8), (8 : UInt8), (8 : UInt8), (8 : UInt8), (8 : UInt8), (8 : UInt8), (8 : UInt8), (8 : UInt8),
              (8 : UInt8), (8 : UInt8), (8 : UInt8), (8 : UInt8), (8 : UInt8), (8 : UInt8), (8 : UInt8), (8 : UInt8), (8 : UInt8), (8 : UInt8), (8 : UInt8), (8 : UInt8), (8 : UInt8), (8 : UInt8),
              (8 : UInt8), (8 : UInt8), (8 : UInt8), (8 : UInt8), (8 : UInt8), (8 : UInt8), (8 : UInt8), (8 : UInt8), (8 : UInt8), (8 : UInt8), (8 : UInt8), (8 : UInt8), (8 : UInt8), (8 : UInt8),
              (8 : UInt8), (8 : UInt8), (8 : UInt8), (8 : UInt8), (8 : UInt8), (8 : UInt8), (8 : UInt8), (8 : UInt8), (8 : UInt8), (8 : UInt8), (8 : UInt8), (8 : UInt8), (8 : UInt8), (8 : UInt8),
              (8 : UInt8), (8 : UInt8), (8 : UInt8), (8 : UInt8), (8 : UInt8), (8 : UInt8), (8 : UInt8), (8 : UInt8), (8 : UInt8), (8 : UInt8), (8 : UInt8), (8 : UInt8), (8 : UInt8), (8 : UInt8),
              (8 : UInt8), (8 : UInt8), (8 : UInt8), (8 : UInt8), (8 : UInt8), (8 : UInt8), (8 : UInt8), (8 : UInt8), (8 : UInt8), (8 : UInt8), (8 : UInt8), (8 : UInt8), (8 : UInt8), (8 : UInt8),
              (8 : UInt8), (8 : UInt8), (8 : UInt8), (8 : UInt8)]
            (Go.IntKind.wrap Go.IntKind.u8 x2.fst))
          fun x3 => Option.some (Go.IntKind.wrap Go.IntKind.i64 (x2.snd + Go.IntKind.wrap Go.IntKind.i64 (↑(UInt8.toNat x3) : Int)))
abbrev F_math_bits_Len64A : Pats := (.cons (.pd Y73) .nil)
abbrev F_math_bits_Len64R : Pats := (.cons (.pd Y3) .nil)
noncomputable def F_math_bits_Len64S : Tr.Spec := { args := F_math_bits_Len64A, res := F_math_bits_Len64R, fns := [], α := El Y3, f := fun x => F_math_bits_Len64 x.1, unp := fun z => (((), ()), (z, ())) }
noncomputable def F_math_bits_Len64E : Env := { ty := fun n => tyTab.lookup n, mty := fun n => mapTab.lookup n, pk := fun n => (pkTab.lookup n).getD 0, rw := fun n => [].contains n, specs := fun n => (([] : List (Nat × List Tr.Spec)).lookup n).getD [], nt := 25, ks := [] }
noncomputable def F_math_bits_Len64B : Code := match Try.f101.body with | some b => b | none => .skip
def F_math_bits_Len64H : Hint := (.seq .leaf (.seq (.seq .leaf (.cnd (some (⟨[], [], []⟩, [(.normal, ⟨[(0, (.pd Y73)), (2, (.pd Y3))], [], []⟩)])) .leaf .leaf)) (.seq (.seq .leaf (.cnd (some (⟨[], [], []⟩, [(.normal, ⟨[(0, (.pd Y73)), (2, (.pd Y3))], [], []⟩)])) .leaf .leaf)) (.seq (.seq .leaf (.cnd (some (⟨[], [], []⟩, [(.normal, ⟨[(0, (.pd Y73)), (2, (.pd Y3))], [], []⟩)])) .leaf .leaf)) .leaf))))
noncomputable def F_math_bits_Len64V (a0 : El Y73) : Option (El Y3) := evalF F_math_bits_Len64E F_math_bits_Len64B Try.f101.results F_math_bits_Len64H F_math_bits_Len64A F_math_bits_Len64R (fun y => y.2.1) (a0, ())
theorem F_math_bits_Len64_eq (a0 : El Y73) : F_math_bits_Len64V a0 = F_math_bits_Len64 a0 := by kernel_rfl
theorem F_math_bits_Len64_ok : FnOK Try.prog 101 F_math_bits_Len64S := evalF_ok (E := F_math_bits_Len64E) (fn := Try.f101) (body := F_math_bits_Len64B) (hint := F_math_bits_Len64H) (pack := fun y => y.2.1) hmix (typesOk_of tab_ok rfl rfl rfl) (specsOk_of (m := []) trivial rfl) (by kernel_rfl) (by kernel_rfl) (by kernel_rfl) (by kernel_rfl) (by kernel_rfl) (by kernel_rfl) (fun y => rfl)
  (fun x z h => (F_math_bits_Len64_eq x.1).trans h)
noncomputable def F_math_bits_Len : (El Y160) → Option (El Y3) := fun a0 => Option.bind (F_math_bits_Len64 a0) fun x0 => Option.some x0
abbrev F_math_bits_LenA : Pats := (.cons (.pd Y160) .nil)
abbrev F_math_bits_LenR : Pats := (.cons (.pd Y3) .nil)
noncomputable def F_math_bits_LenS : Tr.Spec := { args := F_math_bits_LenA, res := F_math_bits_LenR, fns := [], α := El Y3, f := fun x => F_math_bits_Len x.1, unp := fun z => (((), ()), (z, ())) }
noncomputable def F_math_bits_LenE : Env := { ty := fun n => tyTab.lookup n, mty := fun n => mapTab.lookup n, pk := fun n => (pkTab.lookup n).getD 0, rw := fun n => [].contains n, specs := fun n => (([(100, [F_math_bits_Len32S]), (101, [F_math_bits_Len64S])] : List (Nat × List Tr.Spec)).lookup n).getD [], nt := 8, ks := [] }
noncomputable def F_math_bits_LenB : Code := match Try.f86.body with | some b => b | none => .skip
def F_math_bits_LenH : Hint := .leaf
noncomputable def F_math_bits_LenV (a0 : El Y160) : Option (El Y3) := evalF F_math_bits_LenE F_math_bits_LenB Try.f86.results F_math_bits_LenH F_math_bits_LenA F_math_bits_LenR (fun y => y.2.1) (a0, ())
theorem F_math_bits_Len_eq (a0 : El Y160) : F_math_bits_LenV a0 = F_math_bits_Len a0 := by kernel_rfl
theorem F_math_bits_Len_ok : FnOK Try.prog 86 F_math_bits_LenS := evalF_ok (E := F_math_bits_LenE) (fn := Try.f86) (body := F_math_bits_LenB) (hint := F_math_bits_LenH) (pack := fun y => y.2.1) hmix (typesOk_of tab_ok rfl rfl rfl) (specsOk_of (m := [(100, [F_math_bits_Len32S]), (101, [F_math_bits_Len64S])]) ⟨⟨F_math_bits_Len32_ok, trivial⟩, ⟨F_math_bits_Len64_ok, trivial⟩, trivial⟩ rfl) (by kernel_rfl) (by kernel_rfl) (by kernel_rfl) (by kernel_rfl) (by kernel_rfl) (by kernel_rfl) (fun y => rfl)
  (fun x z h => (F_math_bits_Len_eq x.1).trans h)
noncomputable def F_slices_insertionSortCmpFunc_api_Footpath_X_footpath_closure_2 : (List (El Y128)) → (El Y3) → (El Y3) → (Unit) → Option (List (El Y128)) := fun a0 a1 a2 a3 =>
  Option.bind
    (Tr.run
      (fun s0 =>
        bif Decidable.decide (s0.snd < a2) then
          Option.bind
            (Tr.run
              (fun s1 =>
                bif Decidable.decide (a1 < s1.snd) then
                  Option.bind (Tr.inb s1.snd (List.length s1.fst)) fun x2 =>
                    Option.bind s1.fst[x2]? fun x3 =>
                      Option.bind (Tr.inb (Go.IntKind.wrap Go.IntKind.i64 (s1.snd - (1 : Int))) (List.length s1.fst)) fun x4 =>
                        Option.bind s1.fst[x4]? fun x5 =>
                          Option.bind (F_footpath_closure_2 x3 x5) fun x6 =>
                            bif Decidable.decide (x6 < (0 : Int)) then
                              Option.bind (Tr.inb (Go.IntKind.wrap Go.IntKind.i64 (s1.snd - (1 : Int))) (List.length s1.fst)) fun x7 =>
                                Option.bind s1.fst[x7]? fun x8 =>
                                  Option.bind (Tr.inb s1.snd (List.length s1.fst)) fun x9 =>
                                    Option.bind s1.fst[x9]? fun x10 =>
                                      Option.bind (Tr.inb s1.snd (List.length s1.fst)) fun x11 =>
                                        Option.bind s1.fst[x11]? fun _ =>
                                          Option.bind (Tr.inb (Go.IntKind.wrap Go.IntKind.i64 (s1.snd - (1 : Int))) (List.length (List.set s1.fst x11 x8))) fun x13 =>
                                            Option.bind (List.set s1.fst x11 x8)[x13]? fun _ =>
                                              Option.some (Sum.inl (List.set (List.set s1.fst x11 x8) x13 x10, Go.IntKind.wrap Go.IntKind.i64 (s1.snd - (1 : Int))))
                            else Option.some (Sum.inr s1.fst)
                else Option.some (Sum.inr s1.fst))
              (s0.fst, s0.snd))
            fun x15 => Option.some (Sum.inl (x15, Go.IntKind.wrap Go.IntKind.i64 (s0.snd + (1 : Int))))
        else Option.some (Sum.inr s0.fst))
      (a0, Go.IntKind.wrap Go.IntKind.i64 (a1 + (1 : Int))))
    fun x16 => Option.some x16
abbrev F_slices_insertionSortCmpFunc_api_Footpath_X_footpath_closure_2A : Pats := (.cons (.own Y128 true) (.cons (.pd Y3) (.cons (.pd Y3) (.cons (.fn 81 .nil) .nil))))
abbrev F_slices_insertionSortCmpFunc_api_Footpath_X_footpath_closure_2R : Pats := .nil
noncomputable def F_slices_insertionSortCmpFunc_api_Footpath_X_footpath_closure_2S : Tr.Spec := { args := F_slices_insertionSortCmpFunc_api_Footpath_X_footpath_closure_2A, res := F_slices_insertionSortCmpFunc_api_Footpath_X_footpath_closure_2R, fns := [81], α := List (El Y128), f := fun x => F_slices_insertionSortCmpFunc_api_Footpath_X_footpath_closure_2 x.1 x.2.1 x.2.2.1 x.2.2.2.1, unp := fun z => ((z, (), (), (), ()), ()) }
noncomputable def F_slices_insertionSortCmpFunc_api_Footpath_X_footpath_closure_2E : Env := { ty := fun n => tyTab.lookup n, mty := fun n => mapTab.lookup n, pk := fun n => (pkTab.lookup n).getD 0, rw := fun n => [].contains n, specs := fun n => (([(81, [F_footpath_closure_2S])] : List (Nat × List Tr.Spec)).lookup n).getD [], nt := 53, ks := [] }
noncomputable def F_slices_insertionSortCmpFunc_api_Footpath_X_footpath_closure_2B : Code := match Try.f92.body with | some b => b | none => .skip
def F_slices_insertionSortCmpFunc_api_Footpath_X_footpath_closure_2H : Hint := (.seq .leaf (.lp ⟨[(0, (.own Y128 false)), (8, (.pd Y3))], [], [1, 2, 3]⟩ [((.exit 0), ⟨[(0, (.own Y128 false))], [], []⟩)] (.seq .leaf (.seq (.seq .leaf (.lp ⟨[(0, (.own Y128 false)), (9, (.pd Y3))], [], [1, 2, 3, 8]⟩ [((.exit 2), ⟨[(0, (.own Y128 false))], [], [1, 2, 3, 8]⟩)] .leaf)) .leaf))))
noncomputable def F_slices_insertionSortCmpFunc_api_Footpath_X_footpath_closure_2V (a0 : List (El Y128)) (a1 : El Y3) (a2 : El Y3) (a3 : Unit) : Option (List (El Y128)) := evalF F_slices_insertionSortCmpFunc_api_Footpath_X_footpath_closure_2E F_slices_insertionSortCmpFunc_api_Footpath_X_footpath_closure_2B Try.f92.results F_slices_insertionSortCmpFunc_api_Footpath_X_footpath_closure_2H F_slices_insertionSortCmpFunc_api_Footpath_X_footpath_closure_2A F_slices_insertionSortCmpFunc_api_Footpath_X_footpath_closure_2R (fun y => y.1.1) (a0, a1, a2, a3, ())
theorem F_slices_insertionSortCmpFunc_api_Footpath_X_footpath_closure_2_eq (a0 : List (El Y128)) (a1 : El Y3) (a2 : El Y3) (a3 : Unit) : F_slices_insertionSortCmpFunc_api_Footpath_X_footpath_closure_2V a0 a1 a2 a3 = F_slices_insertionSortCmpFunc_api_Footpath_X_footpath_closure_2 a0 a1 a2 a3 := by kernel_rfl
theorem F_slices_insertionSortCmpFunc_api_Footpath_X_footpath_closure_2_ok : FnOK Try.prog 92 F_slices_insertionSortCmpFunc_api_Footpath_X_footpath_closure_2S := evalF_ok (E := F_slices_insertionSortCmpFunc_api_Footpath_X_footpath_closure_2E) (fn := Try.f92) (body := F_slices_insertionSortCmpFunc_api_Footpath_X_footpath_closure_2B) (hint := F_slices_insertionSortCmpFunc_api_Footpath_X_footpath_closure_2H) (pack := fun y => y.1.1) hmix (typesOk_of tab_ok rfl rfl rfl) (specsOk_of (m := [(81, [F_footpath_closure_2S])]) ⟨⟨F_footpath_closure_2_ok, trivial⟩, trivial⟩ rfl) (by kernel_rfl) (by kernel_rfl) (by kernel_rfl) (by kernel_rfl) (by kernel_rfl) (by kernel_rfl) (fun y => rfl)
  (fun x z h => (F_slices_insertionSortCmpFunc_api_Footpath_X_footpath_closure_2_eq x.1 x.2.1 x.2.2.1 x.2.2.2.1).trans h)
noncomputable def F_slices_partialInsertionSortCmpFunc_api_Footpath_X_footpath_closure_2 : (List (El Y128)) → (El Y3) → (El Y3) → (Unit) → Option (List (El Y128) × El Y4) := fun a0 a1 a2 a3 =>
  Option.bind
    (Tr.run
      (fun s0 =>
        bif Decidable.decide (s0.snd.snd < (5 : Int)) then
          Option.bind
            (Tr.run
              (fun s1 =>
                bif Decidable.decide (s1 < a2) then
                  Option.bind (Tr.inb s1 (List.length s0.fst)) fun x2 =>
                    Option.bind s0.fst[x2]? fun x3 =>
                      Option.bind (Tr.inb (Go.IntKind.wrap Go.IntKind.i64 (s1 - (1 : Int))) (List.length s0.fst)) fun x4 =>
                        Option.bind s0.fst[x4]? fun x5 =>
                          Option.bind (F_footpath_closure_2 x3 x5) fun x6 =>
                            bif !Decidable.decide (x6 < (0 : Int)) then Option.some (Sum.inl (Go.IntKind.wrap Go.IntKind.i64 (s1 + (1 : Int)))) else Option.some (Sum.inr s1)
                else Option.some (Sum.inr s1))
              s0.snd.fst)
            fun x7 =>
            bif Decidable.decide (x7 = a2) then Option.some (Sum.inr (Sum.inr (s0.fst, Bool.true)))
            else
              bif Decidable.decide (Go.IntKind.wrap Go.IntKind.i64 (a2 - a1) < (50 : Int)) then Option.some (Sum.inr (Sum.inr (s0.fst, Bool.false)))
              else
                Option.bind (Tr.inb (Go.IntKind.wrap Go.IntKind.i64 (x7 - (1 : Int))) (List.length s0.fst)) fun x8 =>
                  Option.bind s0.fst[x8]? fun x9 =>
                    Option.bind (Tr.inb x7 (List.length s0.fst)) fun x10 =>
                      Option.bind s0.fst[x10]? fun x11 =>
                        Option.bind (Tr.inb x7 (List.length s0.fst)) fun x12 =>
                          Option.bind s0.fst[x12]? fun _ =>
                            Option.bind (Tr.inb (Go.IntKind.wrap Go.IntKind.i64 (x7 - (1 : Int))) (List.length (List.set s0.fst x12 x9))) fun x14 =>
                              Option.bind (List.set s0.fst x12 x9)[x14]? fun _ =>
                                Option.bind
                                  (bif Decidable.decide ((2 : Int) ≤ Go.IntKind.wrap Go.IntKind.i64 (x7 - a1)) then
                                    Option.bind
                                      (Tr.run
                                        (fun s16 =>
                                          bif Decidable.decide ((1 : Int) ≤ s16.snd) then
                                            Option.bind (Tr.inb s16.snd (List.length s16.fst)) fun x17 =>
                                              Option.bind s16.fst[x17]? fun x18 =>
                                                Option.bind (Tr.inb (Go.IntKind.wrap Go.IntKind.i64 (s16.snd - (1 : Int))) (List.length s16.fst)) fun x19 =>
                                                  Option.bind s16.fst[x19]? fun x20 =>
                                                    Option.bind (F_footpath_closure_2 x18 x20) fun x21 =>
                                                      bif !Decidable.decide (x21 < (0 : Int)) then Option.some (Sum.inr s16.fst)
                                                      else
                                                        Option.bind (Tr.inb (Go.IntKind.wrap Go.IntKind.i64 (s16.snd - (1 : Int))) (List.length s16.fst)) fun x22 =>
                                                          Option.bind s16.fst[x22]? fun x23 =>
                                                            Option.bind (Tr.inb s16.snd (List.length s16.fst)) fun x24 =>
                                                              Option.bind s16.fst[x24]? fun x25 =>
                                                                Option.bind (Tr.inb s16.snd (List.length s16.fst)) fun x26 =>
                                                                  Option.bind s16.fst[x26]? fun _ =>
                                                                    Option.bind (Tr.inb (Go.IntKind.wrap Go.IntKind.i64 (s16.snd - (1 : Int))) (List.length (List.set s16.fst x26 x23))) fun x28 =>
                                                                      Option.bind (List.set s16.fst x26 x23)[x28]? fun _ =>
                                                                        Option.some (Sum.inl (List.set (List.set s16.fst x26 x23) x28 x25, Go.IntKind.wrap Go.IntKind.i64 (s16.snd - (1 : Int))))
                                          else Option.some (Sum.inr s16.fst))
                                        (List.set (List.set s0.fst x12 x9) x14 x11, Go.IntKind.wrap Go.IntKind.i64 (x7 - (1 : Int))))
                                      fun x30 => Option.some x30
                                  else Option.some (List.set (List.set s0.fst x12 x9) x14 x11))
                                  fun x31 =>
                                  bif Decidable.decide ((2 : Int) ≤ Go.IntKind.wrap Go.IntKind.i64 (a2 - x7)) then
                                    Option.bind
                                      (Tr.run
                                        (fun s32 =>
                                          bif Decidable.decide (s32.snd < a2) then
                                            Option.bind (Tr.inb s32.snd (List.length s32.fst)) fun x33 =>
                                              Option.bind s32.fst[x33]? fun x34 =>
                                                Option.bind (Tr.inb (Go.IntKind.wrap Go.IntKind.i64 (s32.snd - (1 : Int))) (List.length s32.fst)) fun x35 =>
                                                  Option.bind s32.fst[x35]? fun x36 =>
                                                    Option.bind (F_footpath_closure_2 x34 x36) fun x37 =>
                                                      bif !Decidable.decide (x37 < (0 : Int)) then Option.some (Sum.inr s32.fst)
                                                      else
                                                        Option.bind (Tr.inb (Go.IntKind.wrap Go.IntKind.i64 (s32.snd - (1 : Int))) (List.length s32.fst)) fun x38 =>
                                                          Option.bind s32.fst[x38]? fun x39 =>
                                                            Option.bind (Tr.inb s32.snd (List.length s32.fst)) fun x40 =>
                                                              Option.bind s32.fst[x40]? fun x41 =>
                                                                Option.bind (Tr.inb s32.snd (List.length s32.fst)) fun x42 =>
                                                                  Option.bind s32.fst[x42]? fun _ =>
                                                                    Option.bind (Tr.inb (Go.IntKind.wrap Go.IntKind.i64 (s32.snd - (1 : Int))) (List.length (List.set s32.fst x42 x39))) fun x44 =>
                                                                      Option.bind (List.set s32.fst x42 x39)[x44]? fun _ =>
                                                                        Option.some (Sum.inl (List.set (List.set s32.fst x42 x39) x44 x41, Go.IntKind.wrap Go.IntKind.i64 (s32.snd + (1 : Int))))
                                          else Option.some (Sum.inr s32.fst))
                                        (x31, Go.IntKind.wrap Go.IntKind.i64 (x7 + (1 : Int))))
                                      fun x46 => Option.some (Sum.inl (x46, x7, Go.IntKind.wrap Go.IntKind.i64 (s0.snd.snd + (1 : Int))))
                                  else Option.some (Sum.inl (x31, x7, Go.IntKind.wrap Go.IntKind.i64 (s0.snd.snd + (1 : Int))))
        else Option.some (Sum.inr (Sum.inl s0.fst)))
      (a0, Go.IntKind.wrap Go.IntKind.i64 (a1 + (1 : Int)), (0 : Int)))
    fun x47 => Sum.elim (fun y48 => Option.some (y48, Bool.false)) (fun y49 => Option.some (y49.fst, y49.snd)) x47
abbrev F_slices_partialInsertionSortCmpFunc_api_Footpath_X_footpath_closure_2A : Pats := (.cons (.own Y128 true) (.cons (.pd Y3) (.cons (.pd Y3) (.cons (.fn 81 .nil) .nil))))
abbrev F_slices_partialInsertionSortCmpFunc_api_Footpath_X_footpath_closure_2R : Pats := (.cons (.pd Y4) .nil)
noncomputable def F_slices_partialInsertionSortCmpFunc_api_Footpath_X_footpath_closure_2S : Tr.Spec := { args := F_slices_partialInsertionSortCmpFunc_api_Footpath_X_footpath_closure_2A, res := F_slices_partialInsertionSortCmpFunc_api_Footpath_X_footpath_closure_2R, fns := [81], α := List (El Y128) × El Y4, f := fun x => F_slices_partialInsertionSortCmpFunc_api_Footpath_X_footpath_closure_2 x.1 x.2.1 x.2.2.1 x.2.2.2.1, unp := fun z => ((z.1, (), (), (), ()), (z.2, ())) }
noncomputable def F_slices_partialInsertionSortCmpFunc_api_Footpath_X_footpath_closure_2E : Env := { ty := fun n => tyTab.lookup n, mty := fun n => mapTab.lookup n, pk := fun n => (pkTab.lookup n).getD 0, rw := fun n => [].contains n, specs := fun n => (([(81, [F_footpath_closure_2S])] : List (Nat × List Tr.Spec)).lookup n).getD [], nt := 141, ks := [] }
noncomputable def F_slices_partialInsertionSortCmpFunc_api_Footpath_X_footpath_closure_2B : Code := match Try.f97.body with | some b => b | none => .skip
def F_slices_partialInsertionSortCmpFunc_api_Footpath_X_footpath_closure_2H : Hint := (.seq .leaf (.seq .leaf (.seq (.seq .leaf (.lp ⟨[(0, (.own Y128 false)), (9, (.pd Y3)), (10, (.pd Y3))], [], [1, 2, 3]⟩ [((.exit 0), ⟨[(0, (.own Y128 false))], [], []⟩), (.ret, ⟨[(0, (.own Y128 false)), (8, (.pd Y4))], [], []⟩)] (.seq .leaf (.seq (.seq (.lp ⟨[(9, (.pd Y3))], [], [0, 1, 2, 3, 10]⟩ [((.exit 2), ⟨[(9, (.pd Y3))], [], [0, 1, 2, 3, 10]⟩)] .leaf) (.seq .leaf (.seq .leaf (.seq .leaf (.seq (.seq .leaf (.cnd (some (⟨[], [], [1, 2, 3, 9, 10]⟩, [(.normal, ⟨[(0, (.own Y128 false))], [], [1, 2, 3, 9, 10]⟩)])) (.seq .leaf (.lp ⟨[(0, (.own Y128 false)), (11, (.pd Y3))], [], [1, 2, 3, 9, 10]⟩ [((.exit 4), ⟨[(0, (.own Y128 false))], [], [1, 2, 3, 9, 10]⟩)] .leaf)) .leaf)) (.seq .leaf (.cnd none (.seq .leaf (.lp ⟨[(0, (.own Y128 false)), (12, (.pd Y3))], [], [1, 2, 3, 9, 10]⟩ [((.exit 6), ⟨[(0, (.own Y128 false))], [], [1, 2, 3, 9, 10]⟩)] .leaf)) .leaf))))))) .leaf)))) .leaf)))
noncomputable def F_slices_partialInsertionSortCmpFunc_api_Footpath_X_footpath_closure_2V (a0 : List (El Y128)) (a1 : El Y3) (a2 : El Y3) (a3 : Unit) : Option (List (El Y128) × El Y4) := evalF F_slices_partialInsertionSortCmpFunc_api_Footpath_X_footpath_closure_2E F_slices_partialInsertionSortCmpFunc_api_Footpath_X_footpath_closure_2B Try.f97.results F_slices_partialInsertionSortCmpFunc_api_Footpath_X_footpath_closure_2H F_slices_partialInsertionSortCmpFunc_api_Footpath_X_footpath_closure_2A F_slices_partialInsertionSortCmpFunc_api_Footpath_X_footpath_closure_2R (fun y => (y.1.1, y.2.1)) (a0, a1, a2, a3, ())
theorem F_slices_partialInsertionSortCmpFunc_api_Footpath_X_footpath_closure_2_eq (a0 : List (El Y128)) (a1 : El Y3) (a2 : El Y3) (a3 : Unit) : F_slices_partialInsertionSortCmpFunc_api_Footpath_X_footpath_closure_2V a0 a1 a2 a3 = F_slices_partialInsertionSortCmpFunc_api_Footpath_X_footpath_closure_2 a0 a1 a2 a3 := by kernel_rfl
theorem F_slices_partialInsertionSortCmpFunc_api_Footpath_X_footpath_closure_2_ok : FnOK Try.prog 97 F_slices_partialInsertionSortCmpFunc_api_Footpath_X_footpath_closure_2S := evalF_ok (E := F_slices_partialInsertionSortCmpFunc_api_Footpath_X_footpath_closure_2E) (fn := Try.f97) (body := F_slices_partialInsertionSortCmpFunc_api_Footpath_X_footpath_closure_2B) (hint := F_slices_partialInsertionSortCmpFunc_api_Footpath_X_footpath_closure_2H) (pack := fun y => (y.1.1, y.2.1)) hmix (typesOk_of tab_ok rfl rfl rfl) (specsOk_of (m := [(81, [F_footpath_closure_2S])]) ⟨⟨F_footpath_closure_2_ok, trivial⟩, trivial⟩ rfl) (by kernel_rfl) (by kernel_rfl) (by kernel_rfl) (by kernel_rfl) (by kernel_rfl) (by kernel_rfl) (fun y => rfl)
  (fun x z h => (F_slices_partialInsertionSortCmpFunc_api_Footpath_X_footpath_closure_2_eq x.1 x.2.1 x.2.2.1 x.2.2.2.1).trans h)
noncomputable def F_slices_order2CmpFunc_api_Footpath_X_footpath_closure_2 : (List (El Y128)) → (El Y3) → (El Y3) → (El Y3) → (Unit) → Option (List (El Y128) × El Y3 × El Y3 × El Y3) := fun a0 a1 a2 a3 a4 =>
  Option.bind (Tr.inb a2 (List.length a0)) fun x0 =>
    Option.bind a0[x0]? fun x1 =>
      Option.bind (Tr.inb a1 (List.length a0)) fun x2 =>
        Option.bind a0[x2]? fun x3 =>
          Option.bind (F_footpath_closure_2 x1 x3) fun x4 =>
            bif Decidable.decide (x4 < (0 : Int)) then Option.some (a0, Go.IntKind.wrap Go.IntKind.i64 (a3 + (1 : Int)), a2, a1) else Option.some (a0, a3, a1, a2)
abbrev F_slices_order2CmpFunc_api_Footpath_X_footpath_closure_2A : Pats := (.cons (.own Y128 true) (.cons (.pd Y3) (.cons (.pd Y3) (.cons (.var Y3 (.pd Y3)) (.cons (.fn 81 .nil) .nil)))))
abbrev F_slices_order2CmpFunc_api_Footpath_X_footpath_closure_2R : Pats := (.cons (.pd Y3) (.cons (.pd Y3) .nil))
noncomputable def F_slices_order2CmpFunc_api_Footpath_X_footpath_closure_2S : Tr.Spec := { args := F_slices_order2CmpFunc_api_Footpath_X_footpath_closure_2A, res := F_slices_order2CmpFunc_api_Footpath_X_footpath_closure_2R, fns := [81], α := List (El Y128) × El Y3 × El Y3 × El Y3, f := fun x => F_slices_order2CmpFunc_api_Footpath_X_footpath_closure_2 x.1 x.2.1 x.2.2.1 x.2.2.2.1 x.2.2.2.2.1, unp := fun z => ((z.1, (), (), z.2.1, (), ()), (z.2.2.1, z.2.2.2, ())) }
noncomputable def F_slices_order2CmpFunc_api_Footpath_X_footpath_closure_2E : Env := { ty := fun n => tyTab.lookup n, mty := fun n => mapTab.lookup n, pk := fun n => (pkTab.lookup n).getD 0, rw := fun n => [].contains n, specs := fun n => (([(81, [F_footpath_closure_2S])] : List (Nat × List Tr.Spec)).lookup n).getD [], nt := 32, ks := [] }
noncomputable def F_slices_order2CmpFunc_api_Footpath_X_footpath_closure_2B : Code := match Try.f116.body with | some b => b | none => .skip
def F_slices_order2CmpFunc_api_Footpath_X_footpath_closure_2H : Hint := .leaf
noncomputable def F_slices_order2CmpFunc_api_Footpath_X_footpath_closure_2V (a0 : List (El Y128)) (a1 : El Y3) (a2 : El Y3) (a3 : El Y3) (a4 : Unit) : Option (List (El Y128) × El Y3 × El Y3 × El Y3) := evalF F_slices_order2CmpFunc_api_Footpath_X_footpath_closure_2E F_slices_order2CmpFunc_api_Footpath_X_footpath_closure_2B Try.f116.results F_slices_order2CmpFunc_api_Footpath_X_footpath_closure_2H F_slices_order2CmpFunc_api_Footpath_X_footpath_closure_2A F_slices_order2CmpFunc_api_Footpath_X_footpath_closure_2R (fun y => (y.1.1, y.1.2.2.2.1, y.2.1, y.2.2.1)) (a0, a1, a2, a3, a4, ())
theorem F_slices_order2CmpFunc_api_Footpath_X_footpath_closure_2_eq (a0 : List (El Y128)) (a1 : El Y3) (a2 : El Y3) (a3 : El Y3) (a4 : Unit) : F_slices_order2CmpFunc_api_Footpath_X_footpath_closure_2V a0 a1 a2 a3 a4 = F_slices_order2CmpFunc_api_Footpath_X_footpath_closure_2 a0 a1 a2 a3 a4 := by kernel_rfl
theorem F_slices_order2CmpFunc_api_Footpath_X_footpath_closure_2_ok : FnOK Try.prog 116 F_slices_order2CmpFunc_api_Footpath_X_footpath_closure_2S := evalF_ok (E := F_slices_order2CmpFunc_api_Footpath_X_footpath_closure_2E) (fn := Try.f116) (body := F_slices_order2CmpFunc_api_Footpath_X_footpath_closure_2B) (hint := F_slices_order2CmpFunc_api_Footpath_X_footpath_closure_2H) (pack := fun y => (y.1.1, y.1.2.2.2.1, y.2.1, y.2.2.1)) hmix (typesOk_of tab_ok rfl rfl rfl) (specsOk_of (m := [(81, [F_footpath_closure_2S])]) ⟨⟨F_footpath_closure_2_ok, trivial⟩, trivial⟩ rfl) (by kernel_rfl) (by kernel_rfl) (by kernel_rfl) (by kernel_rfl) (by kernel_rfl) (by kernel_rfl) (fun y => rfl)
  (fun x z h => (F_slices_order2CmpFunc_api_Footpath_X_footpath_closure_2_eq x.1 x.2.1 x.2.2.1 x.2.2.2.1 x.2.2.2.2.1).trans h)
noncomputable def F_slices_medianCmpFunc_api_Footpath_X_footpath_closure_2 : (List (El Y128)) → (El Y3) → (El Y3) → (El Y3) → (El Y3) → (Unit) → Option (List (El Y128) × El Y3 × El Y3) := fun a0 a1 a2 a3 a4 a5 =>
  Option.bind (F_slices_order2CmpFunc_api_Footpath_X_footpath_closure_2 a0 a1 a2 a4 ()) fun x0 =>
    Option.bind (F_slices_order2CmpFunc_api_Footpath_X_footpath_closure_2 x0.fst x0.snd.snd.snd a3 x0.snd.fst ()) fun x1 =>
      Option.bind (F_slices_order2CmpFunc_api_Footpath_X_footpath_closure_2 x1.fst x0.snd.snd.fst x1.snd.snd.fst x1.snd.fst ()) fun x2 => Option.some (x2.fst, x2.snd.fst, x2.snd.snd.snd)
abbrev F_slices_medianCmpFunc_api_Footpath_X_footpath_closure_2A : Pats := (.cons (.own Y128 true) (.cons (.pd Y3) (.cons (.pd Y3) (.cons (.pd Y3) (.cons (.var Y3 (.pd Y3)) (.cons (.fn 81 .nil) .nil))))))
abbrev F_slices_medianCmpFunc_api_Footpath_X_footpath_closure_2R : Pats := (.cons (.pd Y3) .nil)
noncomputable def F_slices_medianCmpFunc_api_Footpath_X_footpath_closure_2S : Tr.Spec := { args := F_slices_medianCmpFunc_api_Footpath_X_footpath_closure_2A, res := F_slices_medianCmpFunc_api_Footpath_X_footpath_closure_2R, fns := [81], α := List (El Y128) × El Y3 × El Y3, f := fun x => F_slices_medianCmpFunc_api_Footpath_X_footpath_closure_2 x.1 x.2.1 x.2.2.1 x.2.2.2.1 x.2.2.2.2.1 x.2.2.2.2.2.1, unp := fun z => ((z.1, (), (), (), z.2.1, (), ()), (z.2.2, ())) }
noncomputable def F_slices_medianCmpFunc_api_Footpath_X_footpath_closure_2E : Env := { ty := fun n => tyTab.lookup n, mty := fun n => mapTab.lookup n, pk := fun n => (pkTab.lookup n).getD 0, rw := fun n => [].contains n, specs := fun n => (([(81, [F_footpath_closure_2S]), (116, [F_slices_order2CmpFunc_api_Footpath_X_footpath_closure_2S])] : List (Nat × List Tr.Spec)).lookup n).getD [], nt := 41, ks := [] }
noncomputable def F_slices_medianCmpFunc_api_Footpath_X_footpath_closure_2B : Code := match Try.f111.body with | some b => b | none => .skip
def F_slices_medianCmpFunc_api_Footpath_X_footpath_closure_2H : Hint := .leaf
noncomputable def F_slices_medianCmpFunc_api_Footpath_X_footpath_closure_2V (a0 : List (El Y128)) (a1 : El Y3) (a2 : El Y3) (a3 : El Y3) (a4 : El Y3) (a5 : Unit) : Option (List (El Y128) × El Y3 × El Y3) := evalF F_slices_medianCmpFunc_api_Footpath_X_footpath_closure_2E F_slices_medianCmpFunc_api_Footpath_X_footpath_closure_2B Try.f111.results F_slices_medianCmpFunc_api_Footpath_X_footpath_closure_2H F_slices_medianCmpFunc_api_Footpath_X_footpath_closure_2A F_slices_medianCmpFunc_api_Footpath_X_footpath_closure_2R (fun y => (y.1.1, y.1.2.2.2.2.1, y.2.1)) (a0, a1, a2, a3, a4, a5, ())
theorem F_slices_medianCmpFunc_api_Footpath_X_footpath_closure_2_eq (a0 : List (El Y128)) (a1 : El Y3) (a2 : El Y3) (a3 : El Y3) (a4 : El Y3) (a5 : Unit) : F_slices_medianCmpFunc_api_Footpath_X_footpath_closure_2V a0 a1 a2 a3 a4 a5 = F_slices_medianCmpFunc_api_Footpath_X_footpath_closure_2 a0 a1 a2 a3 a4 a5 := by kernel_rfl
theorem F_slices_medianCmpFunc_api_Footpath_X_footpath_closure_2_ok : FnOK Try.prog 111 F_slices_medianCmpFunc_api_Footpath_X_footpath_closure_2S := evalF_ok (E := F_slices_medianCmpFunc_api_Footpath_X_footpath_closure_2E) (fn := Try.f111) (body := F_slices_medianCmpFunc_api_Footpath_X_footpath_closure_2B) (hint := F_slices_medianCmpFunc_api_Footpath_X_footpath_closure_2H) (pack := fun y => (y.1.1, y.1.2.2.2.2.1, y.2.1)) hmix (typesOk_of tab_ok rfl rfl rfl) (specsOk_of (m := [(81, [F_footpath_closure_2S]), (116, [F_slices_order2CmpFunc_api_Footpath_X_footpath_closure_2S])]) ⟨⟨F_footpath_closure_2_ok, trivial⟩, ⟨F_slices_order2CmpFunc_api_Footpath_X_footpath_closure_2_ok, trivial⟩, trivial⟩ rfl) (by kernel_rfl) (by kernel_rfl) (by kernel_rfl) (by kernel_rfl) (by kernel_rfl) (by kernel_rfl) (fun y => rfl)
  (fun x z h => (F_slices_medianCmpFunc_api_Footpath_X_footpath_closure_2_eq x.1 x.2.1 x.2.2.1 x.2.2.2.1 x.2.2.2.2.1 x.2.2.2.2.2.1).trans h)
noncomputable def F_slices_medianAdjacentCmpFunc_api_Footpath_X_footpath_closure_2 : (List (El Y128)) → (El Y3) → (El Y3) → (Unit) → Option (List (El Y128) × El Y3 × El Y3) := fun a0 a1 a2 a3 =>
  Option.bind (F_slices_medianCmpFunc_api_Footpath_X_footpath_closure_2 a0 (Go.IntKind.wrap Go.IntKind.i64 (a1 - (1 : Int))) a1 (Go.IntKind.wrap Go.IntKind.i64 (a1 + (1 : Int))) a2 ()) fun x0 =>
    Option.some (x0.fst, x0.snd.fst, x0.snd.snd)
abbrev F_slices_medianAdjacentCmpFunc_api_Footpath_X_footpath_closure_2A : Pats := (.cons (.own Y128 true) (.cons (.pd Y3) (.cons (.var Y3 (.pd Y3)) (.cons (.fn 81 .nil) .nil))))
abbrev F_slices_medianAdjacentCmpFunc_api_Footpath_X_footpath_closure_2R : Pats := (.cons (.pd Y3) .nil)
noncomputable def F_slices_medianAdjacentCmpFunc_api_Footpath_X_footpath_closure_2S : Tr.Spec := { args := F_slices_medianAdjacentCmpFunc_api_Footpath_X_footpath_closure_2A, res := F_slices_medianAdjacentCmpFunc_api_Footpath_X_footpath_closure_2R, fns := [81], α := List (El Y128) × El Y3 × El Y3, f := fun x => F_slices_medianAdjacentCmpFunc_api_Footpath_X_footpath_closure_2 x.1 x.2.1 x.2.2.1 x.2.2.2.1, unp := fun z => ((z.1, (), z.2.1, (), ()), (z.2.2, ())) }
noncomputable def F_slices_medianAdjacentCmpFunc_api_Footpath_X_footpath_closure_2E : Env := { ty := fun n => tyTab.lookup n, mty := fun n => mapTab.lookup n, pk := fun n => (pkTab.lookup n).getD 0, rw := fun n => [].contains n, specs := fun n => (([(81, [F_footpath_closure_2S]), (111, [F_slices_medianCmpFunc_api_Footpath_X_footpath_closure_2S])] : List (Nat × List Tr.Spec)).lookup n).getD [], nt := 18, ks := [] }
noncomputable def F_slices_medianAdjacentCmpFunc_api_Footpath_X_footpath_closure_2B : Code := match Try.f110.body with | some b => b | none => .skip
def F_slices_medianAdjacentCmpFunc_api_Footpath_X_footpath_closure_2H : Hint := .leaf
noncomputable def F_slices_medianAdjacentCmpFunc_api_Footpath_X_footpath_closure_2V (a0 : List (El Y128)) (a1 : El Y3) (a2 : El Y3) (a3 : Unit) : Option (List (El Y128) × El Y3 × El Y3) := evalF F_slices_medianAdjacentCmpFunc_api_Footpath_X_footpath_closure_2E F_slices_medianAdjacentCmpFunc_api_Footpath_X_footpath_closure_2B Try.f110.results F_slices_medianAdjacentCmpFunc_api_Footpath_X_footpath_closure_2H F_slices_medianAdjacentCmpFunc_api_Footpath_X_footpath_closure_2A F_slices_medianAdjacentCmpFunc_api_Footpath_X_footpath_closure_2R (fun y => (y.1.1, y.1.2.2.1, y.2.1)) (a0, a1, a2, a3, ())
theorem F_slices_medianAdjacentCmpFunc_api_Footpath_X_footpath_closure_2_eq (a0 : List (El Y128)) (a1 : El Y3) (a2 : El Y3) (a3 : Unit) : F_slices_medianAdjacentCmpFunc_api_Footpath_X_footpath_closure_2V a0 a1 a2 a3 = F_slices_medianAdjacentCmpFunc_api_Footpath_X_footpath_closure_2 a0 a1 a2 a3 := by kernel_rfl
theorem F_slices_medianAdjacentCmpFunc_api_Footpath_X_footpath_closure_2_ok : FnOK Try.prog 110 F_slices_medianAdjacentCmpFunc_api_Footpath_X_footpath_closure_2S := evalF_ok (E := F_slices_medianAdjacentCmpFunc_api_Footpath_X_footpath_closure_2E) (fn := Try.f110) (body := F_slices_medianAdjacentCmpFunc_api_Footpath_X_footpath_closure_2B) (hint := F_slices_medianAdjacentCmpFunc_api_Footpath_X_footpath_closure_2H) (pack := fun y => (y.1.1, y.1.2.2.1, y.2.1)) hmix (typesOk_of tab_ok rfl rfl rfl) (specsOk_of (m := [(81, [F_footpath_closure_2S]), (111, [F_slices_medianCmpFunc_api_Footpath_X_footpath_closure_2S])]) ⟨⟨F_footpath_closure_2_ok, trivial⟩, ⟨F_slices_medianCmpFunc_api_Footpath_X_footpath_closure_2_ok, trivial⟩, trivial⟩ rfl) (by kernel_rfl) (by kernel_rfl) (by kernel_rfl) (by kernel_rfl) (by kernel_rfl) (by kernel_rfl) (fun y => rfl)
  (fun x z h => (F_slices_medianAdjacentCmpFunc_api_Footpath_X_footpath_closure_2_eq x.1 x.2.1 x.2.2.1 x.2.2.2.1).trans h)
noncomputable def F_slices_choosePivotCmpFunc_api_Footpath_X_footpath_closure_2 : (List (El Y128)) → (El Y3) → (El Y3) → (Unit) → Option (List (El Y128) × El Y3 × El Y168) := fun a0 a1 a2 a3 =>
  Option.bind
    (bif Decidable.decide ((8 : Int) ≤ Go.IntKind.wrap Go.IntKind.i64 (a2 - a1)) then
      Option.bind
        (bif Decidable.decide ((50 : Int) ≤ Go.IntKind.wrap Go.IntKind.i64 (a2 - a1)) then
          Option.bind
            (F_slices_medianAdjacentCmpFunc_api_Footpath_X_footpath_closure_2 a0
              (Go.IntKind.wrap Go.IntKind.i64 (a1 + Go.IntKind.wrap Go.IntKind.i64 (Go.IntKind.wrap Go.IntKind.i64 (Int.tdiv (Go.IntKind.wrap Go.IntKind.i64 (a2 - a1)) (4 : Int)) * (1 : Int))))
              ((0 : Int)) ())
            fun x0 =>
            Option.bind
              (F_slices_medianAdjacentCmpFunc_api_Footpath_X_footpath_closure_2 x0.fst
                (Go.IntKind.wrap Go.IntKind.i64 (a1 + Go.IntKind.wrap Go.IntKind.i64 (Go.IntKind.wrap Go.IntKind.i64 (Int.tdiv (Go.IntKind.wrap Go.IntKind.i64 (a2 - a1)) (4 : Int)) * (2 : Int))))
                x0.snd.fst ())
              fun x1 =>
              Option.bind
                (F_slices_medianAdjacentCmpFunc_api_Footpath_X_footpath_closure_2 x1.fst
                  (Go.IntKind.wrap Go.IntKind.i64 (a1 + Go.IntKind.wrap Go.IntKind.i64 (Go.IntKind.wrap Go.IntKind.i64 (Int.tdiv (Go.IntKind.wrap Go.IntKind.i64 (a2 - a1)) (4 : Int)) * (3 : Int))))
                  x1.snd.fst ())
                fun x2 => Option.some (x2.fst, x2.snd.fst, x0.snd.snd, x1.snd.snd, x2.snd.snd)
        else
          Option.some
            (a0, (0 : Int),
              Go.IntKind.wrap Go.IntKind.i64 (a1 + Go.IntKind.wrap Go.IntKind.i64 (Go.IntKind.wrap Go.IntKind.i64 (Int.tdiv (Go.IntKind.wrap Go.IntKind.i64 (a2 - a1)) (4 : Int)) * (1 : Int))),
              Go.IntKind.wrap Go.IntKind.i64 (a1 + Go.IntKind.wrap Go.IntKind.i64 (Go.IntKind.wrap Go.IntKind.i64 (Int.tdiv (Go.IntKind.wrap Go.IntKind.i64 (a2 - a1)) (4 : Int)) * (2 : Int))),
              Go.IntKind.wrap Go.IntKind.i64 (a1 + Go.IntKind.wrap Go.IntKind.i64 (Go.IntKind.wrap Go.IntKind.i64 (Int.tdiv (Go.IntKind.wrap Go.IntKind.i64 (a2 - a1)) (4 : Int)) * (3 : Int)))))
        fun x3 =>
        Option.bind (F_slices_medianCmpFunc_api_Footpath_X_footpath_closure_2 x3.fst x3.snd.snd.fst x3.snd.snd.snd.fst x3.snd.snd.snd.snd x3.snd.fst ()) fun x4 =>
          Option.some (x4.fst, x4.snd.fst, x4.snd.snd)
    else
      Option.some
        (a0, (0 : Int),
          Go.IntKind.wrap Go.IntKind.i64 (a1 + Go.IntKind.wrap Go.IntKind.i64 (Go.IntKind.wrap Go.IntKind.i64 (Int.tdiv (Go.IntKind.wrap Go.IntKind.i64 (a2 - a1)) (4 : Int)) * (2 : Int)))))
    fun x5 =>
    bif Decidable.decide (x5.snd.fst = (0 : Int)) then Option.some (x5.fst, x5.snd.snd, (1 : Int))
    else bif Decidable.decide (x5.snd.fst = (12 : Int)) then Option.some (x5.fst, x5.snd.snd, (2 : Int)) else Option.some (x5.fst, x5.snd.snd, (0 : Int))
abbrev F_slices_choosePivotCmpFunc_api_Footpath_X_footpath_closure_2A : Pats := (.cons (.own Y128 true) (.cons (.pd Y3) (.cons (.pd Y3) (.cons (.fn 81 .nil) .nil))))
abbrev F_slices_choosePivotCmpFunc_api_Footpath_X_footpath_closure_2R : Pats := (.cons (.pd Y3) (.cons (.pd Y168) .nil))
noncomputable def F_slices_choosePivotCmpFunc_api_Footpath_X_footpath_closure_2S : Tr.Spec := { args := F_slices_choosePivotCmpFunc_api_Footpath_X_footpath_closure_2A, res := F_slices_choosePivotCmpFunc_api_Footpath_X_footpath_closure_2R, fns := [81], α := List (El Y128) × El Y3 × El Y168, f := fun x => F_slices_choosePivotCmpFunc_api_Footpath_X_footpath_closure_2 x.1 x.2.1 x.2.2.1 x.2.2.2.1, unp := fun z => ((z.1, (), (), (), ()), (z.2.1, z.2.2, ())) }
noncomputable def F_slices_choosePivotCmpFunc_api_Footpath_X_footpath_closure_2E : Env := { ty := fun n => tyTab.lookup n, mty := fun n => mapTab.lookup n, pk := fun n => (pkTab.lookup n).getD 0, rw := fun n => [].contains n, specs := fun n => (([(81, [F_footpath_closure_2S]), (110, [F_slices_medianAdjacentCmpFunc_api_Footpath_X_footpath_closure_2S]), (111, [F_slices_medianCmpFunc_api_Footpath_X_footpath_closure_2S])] : List (Nat × List Tr.Spec)).lookup n).getD [], nt := 63, ks := [] }
noncomputable def F_slices_choosePivotCmpFunc_api_Footpath_X_footpath_closure_2B : Code := match Try.f95.body with | some b => b | none => .skip
def F_slices_choosePivotCmpFunc_api_Footpath_X_footpath_closure_2H : Hint := (.seq .leaf (.seq .leaf (.seq .leaf (.seq .leaf (.seq .leaf (.seq .leaf (.seq (.seq .leaf (.cnd (some (⟨[], [], []⟩, [(.normal, ⟨[(0, (.own Y128 false)), (11, (.var Y3 (.pd Y3))), (13, (.pd Y3))], [], []⟩)])) (.seq (.seq .leaf (.cnd (some (⟨[], [], [3]⟩, [(.normal, ⟨[(0, (.own Y128 false)), (11, (.var Y3 (.pd Y3))), (12, (.pd Y3)), (13, (.pd Y3)), (14, (.pd Y3))], [], [3]⟩)])) .leaf .leaf)) .leaf) .leaf)) .leaf)))))))
noncomputable def F_slices_choosePivotCmpFunc_api_Footpath_X_footpath_closure_2V (a0 : List (El Y128)) (a1 : El Y3) (a2 : El Y3) (a3 : Unit) : Option (List (El Y128) × El Y3 × El Y168) := evalF F_slices_choosePivotCmpFunc_api_Footpath_X_footpath_closure_2E F_slices_choosePivotCmpFunc_api_Footpath_X_footpath_closure_2B Try.f95.results F_slices_choosePivotCmpFunc_api_Footpath_X_footpath_closure_2H F_slices_choosePivotCmpFunc_api_Footpath_X_footpath_closure_2A F_slices_choosePivotCmpFunc_api_Footpath_X_footpath_closure_2R (fun y => (y.1.1, y.2.1, y.2.2.1)) (a0, a1, a2, a3, ())
theorem F_slices_choosePivotCmpFunc_api_Footpath_X_footpath_closure_2_eq (a0 : List (El Y128)) (a1 : El Y3) (a2 : El Y3) (a3 : Unit) : F_slices_choosePivotCmpFunc_api_Footpath_X_footpath_closure_2V a0 a1 a2 a3 = F_slices_choosePivotCmpFunc_api_Footpath_X_footpath_closure_2 a0 a1 a2 a3 := by kernel_rfl
theorem F_slices_choosePivotCmpFunc_api_Footpath_X_footpath_closure_2_ok : FnOK Try.prog 95 F_slices_choosePivotCmpFunc_api_Footpath_X_footpath_closure_2S := evalF_ok (E := F_slices_choosePivotCmpFunc_api_Footpath_X_footpath_closure_2E) (fn := Try.f95) (body := F_slices_choosePivotCmpFunc_api_Footpath_X_footpath_closure_2B) (hint := F_slices_choosePivotCmpFunc_api_Footpath_X_footpath_closure_2H) (pack := fun y => (y.1.1, y.2.1, y.2.2.1)) hmix (typesOk_of tab_ok rfl rfl rfl) (specsOk_of (m := [(81, [F_footpath_closure_2S]), (110, [F_slices_medianAdjacentCmpFunc_api_Footpath_X_footpath_closure_2S]), (111, [F_slices_medianCmpFunc_api_Footpath_X_footpath_closure_2S])]) ⟨⟨F_footpath_closure_2_ok, trivial⟩, ⟨F_slices_medianAdjacentCmpFunc_api_Footpath_X_footpath_closure_2_ok, trivial⟩, ⟨F_slices_medianCmpFunc_api_Footpath_X_footpath_closure_2_ok, trivial⟩, trivial⟩ rfl) (by kernel_rfl) (by kernel_rfl) (by kernel_rfl) (by kernel_rfl) (by kernel_rfl) (by kernel_rfl) (fun y => rfl)
  (fun x z h => (F_slices_choosePivotCmpFunc_api_Footpath_X_footpath_closure_2_eq x.1 x.2.1 x.2.2.1 x.2.2.2.1).trans h)
end Q
