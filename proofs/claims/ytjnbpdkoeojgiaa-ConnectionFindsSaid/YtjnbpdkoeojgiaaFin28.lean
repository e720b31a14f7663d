import Derived.Test.YtjnbpdkoeojgiaaTsE
import Derived.KernelRfl
import Derived.Test.YtjnbpdkoeojgiaaProg
open Tr Go Go.Proofs
namespace Q
/-- int -/
abbrev Y3 : Ty := .int .i64
/-- bool -/
abbrev Y4 : Ty := .bool
/-- uint8 -/
abbrev Y5 : Ty := .int .u8
/-- string -/
abbrev Y9 : Ty := .str
/-- api.Connection -/
abbrev Y23 : Ty := .prod Y3 (.prod Y3 (.prod Y3 (.prod Y3 (.prod Y3 (.prod Y3 .unit)))))
/-- []api.Connection -/
abbrev Y27 : Ty := .sl Y23
/-- api.Stop -/
abbrev Y63 : Ty := .prod Y9 (.prod Y3 (.prod Y4 (.prod Y3 .unit)))
/-- []api.Stop -/
abbrev Y31 : Ty := .sl Y63
/-- api.Route -/
abbrev Y65 : Ty := .prod Y9 (.prod Y3 (.prod Y4 .unit))
/-- []api.Route -/
abbrev Y32 : Ty := .sl Y65
/-- api.Call -/
abbrev Y50 : Ty := .prod Y3 (.prod Y3 (.prod Y3 (.prod Y4 (.prod Y4 .unit))))
/-- []api.Call -/
abbrev Y46 : Ty := .sl Y50
/-- api.Run -/
abbrev Y48 : Ty := .prod Y3 (.prod Y3 (.prod Y3 (.prod Y9 (.prod Y3 (.prod Y4 (.prod Y4 (.prod Y46 .unit)))))))
/-- []api.Run -/
abbrev Y33 : Ty := .sl Y48
/-- api.Link -/
abbrev Y84 : Ty := .prod Y3 (.prod Y3 (.prod Y3 (.prod Y3 (.prod Y4 .unit))))
/-- []api.Link -/
abbrev Y34 : Ty := .sl Y84
/-- api.Footpath -/
abbrev Y87 : Ty := .prod Y3 (.prod Y3 (.prod Y3 (.prod Y4 .unit)))
/-- []api.Footpath -/
abbrev Y35 : Ty := .sl Y87
/-- api.Product -/
abbrev Y90 : Ty := .prod Y9 (.prod Y3 (.prod Y3 (.prod Y3 (.prod Y3 (.prod Y3 .unit)))))
/-- []api.Product -/
abbrev Y36 : Ty := .sl Y90
/-- api.Fares -/
abbrev Y38 : Ty := .prod Y36 (.prod Y3 (.prod Y3 (.prod Y3 .unit)))
/-- api.Network -/
abbrev Y40 : Ty := .prod Y31 (.prod Y32 (.prod Y33 (.prod Y34 (.prod Y35 (.prod Y38 .unit)))))
/-- api.Errno -/
abbrev Y42 : Ty := .int .i64
/-- []int -/
abbrev Y45 : Ty := .sl Y3
/-- [2]int -/
abbrev Y52 : Ty := .arr 2 Y3
/-- [4][2]int -/
abbrev Y53 : Ty := .arr 4 Y52
/-- [4]int -/
abbrev Y54 : Ty := .arr 4 Y3
/-- network.result -/
abbrev Y73 : Ty := .prod Y3 (.prod Y3 (.prod Y42 .unit))
/-- uint -/
abbrev Y79 : Ty := .int .u64
/-- map[string]bool -/
abbrev Y91 : Ty := .ref
/-- []network.result -/
abbrev Y92 : Ty := .sl Y73
/-- network.runKey -/
abbrev Y96 : Ty := .prod Y9 (.prod Y3 (.prod Y3 .unit))
/-- map[network.runKey]bool -/
abbrev Y93 : Ty := .ref
/-- map[int]int -/
abbrev Y97 : Ty := .ref
/-- map[int]bool -/
abbrev Y98 : Ty := .ref
/-- map[[4]int]bool -/
abbrev Y99 : Ty := .ref
/-- map[api.Footpath]bool -/
abbrev Y103 : Ty := .ref
/-- slices.sortedHint -/
abbrev Y106 : Ty := .int .i64
/-- uint32 -/
abbrev Y113 : Ty := .int .u32
/-- uint64 -/
abbrev Y115 : Ty := .int .u64
/-- [][]int -/
abbrev Y116 : Ty := .sl Y45
/-- footpath.pair -/
abbrev Y128 : Ty := .prod Y3 (.prod Y3 (.prod Y4 .unit))
/-- map[footpath.pair]bool -/
abbrev Y126 : Ty := .ref
/-- map[footpath.pair]int -/
abbrev Y137 : Ty := .ref
/-- shortest.Edge -/
abbrev Y140 : Ty := .prod Y3 (.prod Y3 (.prod Y3 .unit))
/-- []shortest.Edge -/
abbrev Y138 : Ty := .sl Y140
/-- map[int][]shortest.Edge -/
abbrev Y145 : Ty := .ref
/-- shortest.label -/
abbrev Y156 : Ty := .prod Y3 (.prod Y3 (.prod Y3 .unit))
/-- []shortest.label -/
abbrev Y148 : Ty := .sl Y156
/-- func(shortest.label, shortest.label) bool -/
abbrev Y159 : Ty := .ref
/-- heap.node[transit/shortest.label] -/
abbrev Y169 : Ty := .prod Y156 (.prod Y3 .unit)
/-- []heap.node[transit/shortest.label] -/
abbrev Y165 : Ty := .sl Y169
/-- heap.Heap[transit/shortest.label] -/
abbrev Y167 : Ty := .prod Y159 (.prod Y165 (.prod Y3 .unit))
def tyTab : List (Nat × Ty) := [(3, Y3), (4, Y4), (5, Y5), (9, Y9), (23, Y23), (27, Y27), (63, Y63), (31, Y31), (65, Y65), (32, Y32), (50, Y50), (46, Y46), (48, Y48), (33, Y33), (84, Y84), (34, Y34), (87, Y87), (35, Y35), (90, Y90), (36, Y36), (38, Y38), (40, Y40), (42, Y42), (45, Y45), (52, Y52), (53, Y53), (54, Y54), (73, Y73), (79, Y79), (91, Y91), (92, Y92), (96, Y96), (93, Y93), (97, Y97), (98, Y98), (99, Y99), (103, Y103), (106, Y106), (113, Y113), (115, Y115), (116, Y116), (128, Y128), (126, Y126), (137, Y137), (140, Y140), (138, Y138), (145, Y145), (156, Y156), (148, Y148), (159, Y159), (169, Y169), (165, Y165), (167, Y167)]
def mapTab : List (Nat × Ty × Ty) := [(91, Y9, Y4), (93, Y96, Y4), (97, Y3, Y3), (98, Y3, Y4), (99, Y54, Y4), (103, Y87, Y4), (126, Y128, Y4), (137, Y128, Y3), (145, Y3, Y138)]
def pkTab : List (Nat × Nat) := [(157, 1), (159, 2)]
theorem hmix : Try.prog.follows .mixedOrders = true := by kernel_rfl
theorem tab_ok : tabOk Try.prog tyTab mapTab pkTab = true := by kernel_rfl
noncomputable def F7 : (El Y23) → (El Y23) → Option (El Y3) := fun a0 a1 =>
  Option.bind
    (Tr.run
      (fun s0 =>
        bif Decidable.decide (s0 < (4 : Int)) then
          Option.bind (Tr.idx [[a0.snd.snd.snd.snd.fst, a1.snd.snd.snd.snd.fst], [a0.snd.snd.snd.snd.snd.fst, a1.snd.snd.snd.snd.snd.fst], [a0.fst, a1.fst], [a0.snd.fst, a1.snd.fst]] s0) fun x1 =>
            Option.bind x1[Int.toNat (0 : Int)]? fun x2 =>
              Option.bind x1[Int.toNat (1 : Int)]? fun x3 =>
                bif Decidable.decide (x2 < x3) then Option.some (Sum.inr (Sum.inr (-1 : Int)))
                else
                  Option.bind x1[Int.toNat (0 : Int)]? fun x4 =>
                    Option.bind x1[Int.toNat (1 : Int)]? fun x5 =>
                      bif Decidable.decide (x5 < x4) then Option.some (Sum.inr (Sum.inr (1 : Int))) else Option.some (Sum.inl (Go.IntKind.wrap Go.IntKind.i64 (s0 + (1 : Int))))
        else Option.some (Sum.inr (Sum.inl ())))
      (0 : Int))
    fun x6 => Sum.elim (fun y7 => Option.some (0 : Int)) (fun y8 => Option.some y8) x6
abbrev F7A : Pats := (.cons (.pd Y23) (.cons (.pd Y23) .nil))
abbrev F7R : Pats := (.cons (.pd Y3) .nil)
noncomputable def F7S : Tr.Spec := { args := F7A, res := F7R, fns := [], α := El Y3, f := fun x => F7 x.1 x.2.1, unp := fun z => (((), (), ()), (z, ())) }
noncomputable def F7E : Env := { ty := fun n => tyTab.lookup n, mty := fun n => mapTab.lookup n, pk := fun n => (pkTab.lookup n).getD 0, rw := fun n => [].contains n, specs := fun n => (([] : List (Nat × List Tr.Spec)).lookup n).getD [], nt := 42, ks := [] }
noncomputable def F7B : Code := match Try.f7.body with | some b => b | none => .skip
def F7H : Hint := (.seq .leaf (.seq (.seq .leaf (.lp ⟨[(28, (.pd Y3))], [], [27]⟩ [((.exit 0), ⟨[], [], []⟩), (.ret, ⟨[(4, (.pd Y3))], [], []⟩)] .leaf)) .leaf))
noncomputable def F7V (a0 : El Y23) (a1 : El Y23) : Option (El Y3) := evalF F7E F7B Try.f7.results F7H F7A F7R (fun y => y.2.1) (a0, a1, ())
theorem F7_eq (a0 : El Y23) (a1 : El Y23) : F7V a0 a1 = F7 a0 a1 := by kernel_rfl
theorem F7_ok : FnOK Try.prog 7 F7S := evalF_ok (E := F7E) (fn := Try.f7) (body := F7B) (hint := F7H) (pack := fun y => y.2.1) hmix (typesOk_of tab_ok rfl rfl rfl) (specsOk_of (m := []) trivial rfl) (by kernel_rfl) (by kernel_rfl) (by kernel_rfl) (by kernel_rfl) (by kernel_rfl) (by kernel_rfl) (fun y => rfl)
  (fun x z h => (F7_eq x.1 x.2.1).trans h)
noncomputable def F8 : (El Y23) → (El Y23) → Option (El Y3) := fun a0 a1 =>
  Option.bind
    (Tr.run
      (fun s0 =>
        bif Decidable.decide (s0 < (4 : Int)) then
          Option.bind (Tr.inb s0 (4 : Nat)) fun x1 =>
            Option.bind [a0.snd.snd.snd.snd.fst, a0.snd.snd.snd.snd.snd.fst, a0.fst, a0.snd.fst][x1]? fun x2 =>
              Option.bind (Tr.inb s0 (4 : Nat)) fun x3 =>
                Option.bind [a1.snd.snd.snd.snd.fst, a1.snd.snd.snd.snd.snd.fst, a1.fst, a1.snd.fst][x3]? fun x4 =>
                  bif Decidable.decide (x2 < x4) then Option.some (Sum.inr (Sum.inr (-1 : Int)))
                  else
                    Option.bind (Tr.inb s0 (4 : Nat)) fun x5 =>
                      Option.bind [a0.snd.snd.snd.snd.fst, a0.snd.snd.snd.snd.snd.fst, a0.fst, a0.snd.fst][x5]? fun x6 =>
                        Option.bind (Tr.inb s0 (4 : Nat)) fun x7 =>
                          Option.bind [a1.snd.snd.snd.snd.fst, a1.snd.snd.snd.snd.snd.fst, a1.fst, a1.snd.fst][x7]? fun x8 =>
                            bif Decidable.decide (x8 < x6) then Option.some (Sum.inr (Sum.inr (1 : Int))) else Option.some (Sum.inl (Go.IntKind.wrap Go.IntKind.i64 (s0 + (1 : Int))))
        else Option.some (Sum.inr (Sum.inl ())))
      (0 : Int))
    fun x9 => Sum.elim (fun y10 => Option.some (0 : Int)) (fun y11 => Option.some y11) x9
abbrev F8A : Pats := (.cons (.pd Y23) (.cons (.pd Y23) .nil))
abbrev F8R : Pats := (.cons (.pd Y3) .nil)
noncomputable def F8S : Tr.Spec := { args := F8A, res := F8R, fns := [], α := El Y3, f := fun x => F8 x.1 x.2.1, unp := fun z => (((), (), ()), (z, ())) }
noncomputable def F8E : Env := { ty := fun n => tyTab.lookup n, mty := fun n => mapTab.lookup n, pk := fun n => (pkTab.lookup n).getD 0, rw := fun n => [].contains n, specs := fun n => (([] : List (Nat × List Tr.Spec)).lookup n).getD [], nt := 44, ks := [] }
noncomputable def F8B : Code := match Try.f8.body with | some b => b | none => .skip
def F8H : Hint := (.seq .leaf (.seq .leaf (.seq .leaf (.seq (.seq .leaf (.lp ⟨[(7, (.pd Y3))], [], [5, 6]⟩ [((.exit 0), ⟨[], [], []⟩), (.ret, ⟨[(4, (.pd Y3))], [], []⟩)] .leaf)) .leaf))))
noncomputable def F8V (a0 : El Y23) (a1 : El Y23) : Option (El Y3) := evalF F8E F8B Try.f8.results F8H F8A F8R (fun y => y.2.1) (a0, a1, ())
theorem F8_eq (a0 : El Y23) (a1 : El Y23) : F8V a0 a1 = F8 a0 a1 := by kernel_rfl
theorem F8_ok : FnOK Try.prog 8 F8S := evalF_ok (E := F8E) (fn := Try.f8) (body := F8B) (hint := F8H) (pack := fun y => y.2.1) hmix (typesOk_of tab_ok rfl rfl rfl) (specsOk_of (m := []) trivial rfl) (by kernel_rfl) (by kernel_rfl) (by kernel_rfl) (by kernel_rfl) (by kernel_rfl) (by kernel_rfl) (fun y => rfl)
  (fun x z h => (F8_eq x.1 x.2.1).trans h)
noncomputable def F21 : (El Y3) → (El Y27) → (El Y3) → Option (El Y4) := fun a0 a1 a2 => Option.bind (Tr.idx a1 a0) fun x0 => Option.some (Decidable.decide (a2 ≤ x0.snd.snd.snd.snd.fst))
abbrev F21A : Pats := (.cons (.pd Y3) (.cons (.ro Y27) (.cons (.ro Y3) .nil)))
abbrev F21R : Pats := (.cons (.pd Y4) .nil)
noncomputable def F21S : Tr.Spec := { args := F21A, res := F21R, fns := [], α := El Y4, f := fun x => F21 x.1 x.2.1 x.2.2.1, unp := fun z => (((), (), (), ()), (z, ())) }
noncomputable def F21E : Env := { ty := fun n => tyTab.lookup n, mty := fun n => mapTab.lookup n, pk := fun n => (pkTab.lookup n).getD 0, rw := fun n => [].contains n, specs := fun n => (([] : List (Nat × List Tr.Spec)).lookup n).getD [], nt := 12, ks := [] }
noncomputable def F21B : Code := match Try.f21.body with | some b => b | none => .skip
def F21H : Hint := .leaf
noncomputable def F21V (a0 : El Y3) (a1 : El Y27) (a2 : El Y3) : Option (El Y4) := evalF F21E F21B Try.f21.results F21H F21A F21R (fun y => y.2.1) (a0, a1, a2, ())
theorem F21_eq (a0 : El Y3) (a1 : El Y27) (a2 : El Y3) : F21V a0 a1 a2 = F21 a0 a1 a2 := by kernel_rfl
theorem F21_ok : FnOK Try.prog 21 F21S := evalF_ok (E := F21E) (fn := Try.f21) (body := F21B) (hint := F21H) (pack := fun y => y.2.1) hmix (typesOk_of tab_ok rfl rfl rfl) (specsOk_of (m := []) trivial rfl) (by kernel_rfl) (by kernel_rfl) (by kernel_rfl) (by kernel_rfl) (by kernel_rfl) (by kernel_rfl) (fun y => rfl)
  (fun x z h => (F21_eq x.1 x.2.1 x.2.2.1).trans h)
noncomputable def F20_21 : (El Y3) → ((El Y27 × El Y3 × Unit)) → Option (El Y3) := fun a0 a1 =>
  Option.bind
    (Tr.run
      (fun s0 =>
        bif Decidable.decide (s0.fst < s0.snd) then
          Option.bind (F21 (Go.IntKind.wrap Go.IntKind.i64 (Int.tdiv (Go.IntKind.wrap Go.IntKind.i64 (s0.fst + s0.snd)) (2 : Int))) a1.fst a1.snd.fst) fun x1 =>
            bif x1 then Option.some (Sum.inl (s0.fst, Go.IntKind.wrap Go.IntKind.i64 (Int.tdiv (Go.IntKind.wrap Go.IntKind.i64 (s0.fst + s0.snd)) (2 : Int))))
            else Option.some (Sum.inl (Go.IntKind.wrap Go.IntKind.i64 (Go.IntKind.wrap Go.IntKind.i64 (Int.tdiv (Go.IntKind.wrap Go.IntKind.i64 (s0.fst + s0.snd)) (2 : Int)) + (1 : Int)), s0.snd))
        else Option.some (Sum.inr s0.fst))
      ((0 : Int), a0))
    fun x2 => Option.some x2
abbrev F20_21A : Pats := (.cons (.pd Y3) (.cons (.fn 21 (.cons (.ro Y27) (.cons (.ro Y3) .nil))) .nil))
abbrev F20_21R : Pats := (.cons (.pd Y3) .nil)
noncomputable def F20_21S : Tr.Spec := { args := F20_21A, res := F20_21R, fns := [21], α := El Y3, f := fun x => F20_21 x.1 x.2.1, unp := fun z => (((), ((), (), ()), ()), (z, ())) }
noncomputable def F20_21E : Env := { ty := fun n => tyTab.lookup n, mty := fun n => mapTab.lookup n, pk := fun n => (pkTab.lookup n).getD 0, rw := fun n => [].contains n, specs := fun n => (([(21, [F21S])] : List (Nat × List Tr.Spec)).lookup n).getD [], nt := 23, ks := [] }
noncomputable def F20_21B : Code := match Try.f20.body with | some b => b | none => .skip
def F20_21H : Hint := (.seq .leaf (.seq .leaf (.seq (.lp ⟨[(5, (.pd Y3)), (6, (.pd Y3))], [], [1]⟩ [((.exit 0), ⟨[(5, (.pd Y3))], [], [1]⟩)] .leaf) .leaf)))
noncomputable def F20_21V (a0 : El Y3) (a1 : (El Y27 × El Y3 × Unit)) : Option (El Y3) := evalF F20_21E F20_21B Try.f20.results F20_21H F20_21A F20_21R (fun y => y.2.1) (a0, a1, ())
theorem F20_21_eq (a0 : El Y3) (a1 : (El Y27 × El Y3 × Unit)) : F20_21V a0 a1 = F20_21 a0 a1 := by kernel_rfl
theorem F20_21_ok : FnOK Try.prog 20 F20_21S := evalF_ok (E := F20_21E) (fn := Try.f20) (body := F20_21B) (hint := F20_21H) (pack := fun y => y.2.1) hmix (typesOk_of tab_ok rfl rfl rfl) (specsOk_of (m := [(21, [F21S])]) ⟨⟨F21_ok, trivial⟩, trivial⟩ rfl) (by kernel_rfl) (by kernel_rfl) (by kernel_rfl) (by kernel_rfl) (by kernel_rfl) (by kernel_rfl) (fun y => rfl)
  (fun x z h => (F20_21_eq x.1 x.2.1).trans h)
noncomputable def F10 : (El Y27) → (El Y3) → Option (El Y3) := fun a0 a1 => Option.bind (F20_21 (↑(List.length a0) : Int) (a0, a1, ())) fun x0 => Option.some x0
abbrev F10A : Pats := (.cons (.pd Y27) (.cons (.pd Y3) .nil))
abbrev F10R : Pats := (.cons (.pd Y3) .nil)
noncomputable def F10S : Tr.Spec := { args := F10A, res := F10R, fns := [], α := El Y3, f := fun x => F10 x.1 x.2.1, unp := fun z => (((), (), ()), (z, ())) }
noncomputable def F10E : Env := { ty := fun n => tyTab.lookup n, mty := fun n => mapTab.lookup n, pk := fun n => (pkTab.lookup n).getD 0, rw := fun n => [].contains n, specs := fun n => (([(20, [F20_21S]), (21, [F21S])] : List (Nat × List Tr.Spec)).lookup n).getD [], nt := 9, ks := [] }
noncomputable def F10B : Code := match Try.f10.body with | some b => b | none => .skip
def F10H : Hint := .leaf
noncomputable def F10V (a0 : El Y27) (a1 : El Y3) : Option (El Y3) := evalF F10E F10B Try.f10.results F10H F10A F10R (fun y => y.2.1) (a0, a1, ())
theorem F10_eq (a0 : El Y27) (a1 : El Y3) : F10V a0 a1 = F10 a0 a1 := by kernel_rfl
theorem F10_ok : FnOK Try.prog 10 F10S := evalF_ok (E := F10E) (fn := Try.f10) (body := F10B) (hint := F10H) (pack := fun y => y.2.1) hmix (typesOk_of tab_ok rfl rfl rfl) (specsOk_of (m := [(20, [F20_21S]), (21, [F21S])]) ⟨⟨F20_21_ok, trivial⟩, ⟨F21_ok, trivial⟩, trivial⟩ rfl) (by kernel_rfl) (by kernel_rfl) (by kernel_rfl) (by kernel_rfl) (by kernel_rfl) (by kernel_rfl) (fun y => rfl)
  (fun x z h => (F10_eq x.1 x.2.1).trans h)
noncomputable def F22 : (El Y3) → (El Y27) → (El Y3) → Option (El Y4) := fun a0 a1 a2 => Option.bind (Tr.idx a1 a0) fun x0 => Option.some (Decidable.decide (a2 < x0.snd.snd.snd.snd.fst))
abbrev F22A : Pats := (.cons (.pd Y3) (.cons (.ro Y27) (.cons (.ro Y3) .nil)))
abbrev F22R : Pats := (.cons (.pd Y4) .nil)
noncomputable def F22S : Tr.Spec := { args := F22A, res := F22R, fns := [], α := El Y4, f := fun x => F22 x.1 x.2.1 x.2.2.1, unp := fun z => (((), (), (), ()), (z, ())) }
noncomputable def F22E : Env := { ty := fun n => tyTab.lookup n, mty := fun n => mapTab.lookup n, pk := fun n => (pkTab.lookup n).getD 0, rw := fun n => [].contains n, specs := fun n => (([] : List (Nat × List Tr.Spec)).lookup n).getD [], nt := 12, ks := [] }
noncomputable def F22B : Code := match Try.f22.body with | some b => b | none => .skip
def F22H : Hint := .leaf
noncomputable def F22V (a0 : El Y3) (a1 : El Y27) (a2 : El Y3) : Option (El Y4) := evalF F22E F22B Try.f22.results F22H F22A F22R (fun y => y.2.1) (a0, a1, a2, ())
theorem F22_eq (a0 : El Y3) (a1 : El Y27) (a2 : El Y3) : F22V a0 a1 a2 = F22 a0 a1 a2 := by kernel_rfl
theorem F22_ok : FnOK Try.prog 22 F22S := evalF_ok (E := F22E) (fn := Try.f22) (body := F22B) (hint := F22H) (pack := fun y => y.2.1) hmix (typesOk_of tab_ok rfl rfl rfl) (specsOk_of (m := []) trivial rfl) (by kernel_rfl) (by kernel_rfl) (by kernel_rfl) (by kernel_rfl) (by kernel_rfl) (by kernel_rfl) (fun y => rfl)
  (fun x z h => (F22_eq x.1 x.2.1 x.2.2.1).trans h)
noncomputable def F20_22 : (El Y3) → ((El Y27 × El Y3 × Unit)) → Option (El Y3) := fun a0 a1 =>
  Option.bind
    (Tr.run
      (fun s0 =>
        bif Decidable.decide (s0.fst < s0.snd) then
          Option.bind (F22 (Go.IntKind.wrap Go.IntKind.i64 (Int.tdiv (Go.IntKind.wrap Go.IntKind.i64 (s0.fst + s0.snd)) (2 : Int))) a1.fst a1.snd.fst) fun x1 =>
            bif x1 then Option.some (Sum.inl (s0.fst, Go.IntKind.wrap Go.IntKind.i64 (Int.tdiv (Go.IntKind.wrap Go.IntKind.i64 (s0.fst + s0.snd)) (2 : Int))))
            else Option.some (Sum.inl (Go.IntKind.wrap Go.IntKind.i64 (Go.IntKind.wrap Go.IntKind.i64 (Int.tdiv (Go.IntKind.wrap Go.IntKind.i64 (s0.fst + s0.snd)) (2 : Int)) + (1 : Int)), s0.snd))
        else Option.some (Sum.inr s0.fst))
      ((0 : Int), a0))
    fun x2 => Option.some x2
abbrev F20_22A : Pats := (.cons (.pd Y3) (.cons (.fn 22 (.cons (.ro Y27) (.cons (.ro Y3) .nil))) .nil))
abbrev F20_22R : Pats := (.cons (.pd Y3) .nil)
noncomputable def F20_22S : Tr.Spec := { args := F20_22A, res := F20_22R, fns := [22], α := El Y3, f := fun x => F20_22 x.1 x.2.1, unp := fun z => (((), ((), (), ()), ()), (z, ())) }
noncomputable def F20_22E : Env := { ty := fun n => tyTab.lookup n, mty := fun n => mapTab.lookup n, pk := fun n => (pkTab.lookup n).getD 0, rw := fun n => [].contains n, specs := fun n => (([(22, [F22S])] : List (Nat × List Tr.Spec)).lookup n).getD [], nt := 23, ks := [] }
noncomputable def F20_22B : Code := match Try.f20.body with | some b => b | none => .skip
def F20_22H : Hint := (.seq .leaf (.seq .leaf (.seq (.lp ⟨[(5, (.pd Y3)), (6, (.pd Y3))], [], [1]⟩ [((.exit 0), ⟨[(5, (.pd Y3))], [], [1]⟩)] .leaf) .leaf)))
noncomputable def F20_22V (a0 : El Y3) (a1 : (El Y27 × El Y3 × Unit)) : Option (El Y3) := evalF F20_22E F20_22B Try.f20.results F20_22H F20_22A F20_22R (fun y => y.2.1) (a0, a1, ())
theorem F20_22_eq (a0 : El Y3) (a1 : (El Y27 × El Y3 × Unit)) : F20_22V a0 a1 = F20_22 a0 a1 := by kernel_rfl
theorem F20_22_ok : FnOK Try.prog 20 F20_22S := evalF_ok (E := F20_22E) (fn := Try.f20) (body := F20_22B) (hint := F20_22H) (pack := fun y => y.2.1) hmix (typesOk_of tab_ok rfl rfl rfl) (specsOk_of (m := [(22, [F22S])]) ⟨⟨F22_ok, trivial⟩, trivial⟩ rfl) (by kernel_rfl) (by kernel_rfl) (by kernel_rfl) (by kernel_rfl) (by kernel_rfl) (by kernel_rfl) (fun y => rfl)
  (fun x z h => (F20_22_eq x.1 x.2.1).trans h)
noncomputable def F11 : (El Y27) → (El Y3) → Option (El Y3) := fun a0 a1 => Option.bind (F20_22 (↑(List.length a0) : Int) (a0, a1, ())) fun x0 => Option.some x0
abbrev F11A : Pats := (.cons (.pd Y27) (.cons (.pd Y3) .nil))
abbrev F11R : Pats := (.cons (.pd Y3) .nil)
noncomputable def F11S : Tr.Spec := { args := F11A, res := F11R, fns := [], α := El Y3, f := fun x => F11 x.1 x.2.1, unp := fun z => (((), (), ()), (z, ())) }
noncomputable def F11E : Env := { ty := fun n => tyTab.lookup n, mty := fun n => mapTab.lookup n, pk := fun n => (pkTab.lookup n).getD 0, rw := fun n => [].contains n, specs := fun n => (([(20, [F20_21S, F20_22S]), (22, [F22S])] : List (Nat × List Tr.Spec)).lookup n).getD [], nt := 9, ks := [] }
noncomputable def F11B : Code := match Try.f11.body with | some b => b | none => .skip
def F11H : Hint := .leaf
noncomputable def F11V (a0 : El Y27) (a1 : El Y3) : Option (El Y3) := evalF F11E F11B Try.f11.results F11H F11A F11R (fun y => y.2.1) (a0, a1, ())
theorem F11_eq (a0 : El Y27) (a1 : El Y3) : F11V a0 a1 = F11 a0 a1 := by kernel_rfl
theorem F11_ok : FnOK Try.prog 11 F11S := evalF_ok (E := F11E) (fn := Try.f11) (body := F11B) (hint := F11H) (pack := fun y => y.2.1) hmix (typesOk_of tab_ok rfl rfl rfl) (specsOk_of (m := [(20, [F20_21S, F20_22S]), (22, [F22S])]) ⟨⟨F20_21_ok, F20_22_ok, trivial⟩, ⟨F22_ok, trivial⟩, trivial⟩ rfl) (by kernel_rfl) (by kernel_rfl) (by kernel_rfl) (by kernel_rfl) (by kernel_rfl) (by kernel_rfl) (fun y => rfl)
  (fun x z h => (F11_eq x.1 x.2.1).trans h)
noncomputable def F47 : (El Y9) → Option (El Y4) := fun a0 =>
  Option.bind
    (Tr.run
      (fun s0 =>
        bif Decidable.decide (s0 < (↑(List.length a0) : Int)) then
          Option.bind (Tr.idx a0 s0) fun x1 =>
            Option.bind (bif Decidable.decide ((97 : Int) ≤ (↑(UInt8.toNat x1) : Int)) then Option.some (Decidable.decide ((↑(UInt8.toNat x1) : Int) ≤ (122 : Int))) else Option.some Bool.false)
              fun x2 =>
              Option.bind
                (bif x2 then Option.some x2
                else
                  Option.bind (bif Decidable.decide ((65 : Int) ≤ (↑(UInt8.toNat x1) : Int)) then Option.some (Decidable.decide ((↑(UInt8.toNat x1) : Int) ≤ (90 : Int))) else Option.some Bool.false)
                    fun x3 =>
                    Option.bind
                      (bif x3 then Option.some x3
                      else
                        Option.bind
                          (bif Decidable.decide ((48 : Int) ≤ (↑(UInt8.toNat x1) : Int)) then Option.some (Decidable.decide ((↑(UInt8.toNat x1) : Int) ≤ (57 : Int))) else Option.some Bool.false)
                          fun x4 => Option.some x4)
                      fun x5 => Option.some x5)
                fun x6 =>
                bif x6 then Option.some (Sum.inl (Go.IntKind.wrap Go.IntKind.i64 (s0 + (1 : Int))))
                else
                  Option.bind
                    (bif Decidable.decide ((↑(UInt8.toNat x1) : Int) = (45 : Int)) then Option.some (Decidable.decide ((↑(UInt8.toNat x1) : Int) = (45 : Int)))
                    else
                      Option.bind
                        (bif Decidable.decide ((↑(UInt8.toNat x1) : Int) = (95 : Int)) then Option.some (Decidable.decide ((↑(UInt8.toNat x1) : Int) = (95 : Int)))
                        else Option.some (Decidable.decide ((↑(UInt8.toNat x1) : Int) = (46 : Int))))
                        fun x7 => Option.some x7)
                    fun x8 => bif x8 then Option.some (Sum.inl (Go.IntKind.wrap Go.IntKind.i64 (s0 + (1 : Int)))) else Option.some (Sum.inr (Sum.inr Bool.false))
        else Option.some (Sum.inr (Sum.inl ())))
      (0 : Int))
    fun x9 =>
    Sum.elim
      (fun y10 =>
        Option.bind (bif Decidable.decide ((0 : Int) < (↑(List.length a0) : Int)) then Option.some (Decidable.decide ((↑(List.length a0) : Int) ≤ (32 : Int))) else Option.some Bool.false) fun x11 =>
          Option.some x11)
      (fun y12 => Option.some y12) x9
abbrev F47A : Pats := (.cons (.pd Y9) .nil)
abbrev F47R : Pats := (.cons (.pd Y4) .nil)
noncomputable def F47S : Tr.Spec := { args := F47A, res := F47R, fns := [], α := El Y4, f := fun x => F47 x.1, unp := fun z => (((), ()), (z, ())) }
noncomputable def F47E : Env := { ty := fun n => tyTab.lookup n, mty := fun n => mapTab.lookup n, pk := fun n => (pkTab.lookup n).getD 0, rw := fun n => [].contains n, specs := fun n => (([] : List (Nat × List Tr.Spec)).lookup n).getD [], nt := 48, ks := [] }
noncomputable def F47B : Code := match Try.f47.body with | some b => b | none => .skip
def F47H : Hint := (.seq .leaf (.seq (.seq .leaf (.lp ⟨[(3, (.pd Y3))], [], [0]⟩ [((.exit 0), ⟨[], [], [0]⟩), (.ret, ⟨[(2, (.pd Y4))], [], []⟩)] (.seq .leaf (.seq (.seq .leaf (.seq (.seq (.reg [(14, Y4)]) (.cnd (some (⟨[], [], [0, 3, 4]⟩, [(.normal, ⟨[(14, (.pd Y4))], [], [0, 3, 4]⟩)])) .leaf (.seq (.reg [(14, Y4)]) (.cnd (some (⟨[], [], [0, 3, 4]⟩, [(.normal, ⟨[(14, (.pd Y4))], [], [0, 3, 4]⟩)])) .leaf (.reg [(14, Y4)]))))) (.cnd none .leaf (.seq (.seq .leaf (.cnd (some (⟨[], [], [0, 3]⟩, [(.normal, ⟨[(33, (.pd Y4))], [], [0, 3]⟩)])) .leaf (.seq .leaf (.cnd (some (⟨[], [], [0, 3]⟩, [(.normal, ⟨[(33, (.pd Y4))], [], [0, 3]⟩)])) .leaf .leaf)))) .leaf)))) .leaf)))) (.seq (.reg [(2, Y4)]) .leaf)))
noncomputable def F47V (a0 : El Y9) : Option (El Y4) := evalF F47E F47B Try.f47.results F47H F47A F47R (fun y => y.2.1) (a0, ())
theorem F47_eq (a0 : El Y9) : F47V a0 = F47 a0 := by kernel_rfl
theorem F47_ok : FnOK Try.prog 47 F47S := evalF_ok (E := F47E) (fn := Try.f47) (body := F47B) (hint := F47H) (pack := fun y => y.2.1) hmix (typesOk_of tab_ok rfl rfl rfl) (specsOk_of (m := []) trivial rfl) (by kernel_rfl) (by kernel_rfl) (by kernel_rfl) (by kernel_rfl) (by kernel_rfl) (by kernel_rfl) (fun y => rfl)
  (fun x z h => (F47_eq x.1).trans h)
noncomputable def F32 : (El Y31) → Option (El Y3 × El Y42) := fun a0 =>
  bif Decidable.decide ((64 : Int) < (↑(List.length a0) : Int)) then Option.some ((0 : Int), (5 : Int))
  else
    Option.bind
      (Tr.run
        (fun s0 =>
          bif Decidable.decide (s0.snd < (↑(List.length a0) : Int)) then
            Option.bind (Tr.idx a0 s0.snd) fun x1 =>
              Option.bind (F47 x1.fst) fun x2 =>
                bif !x2 then Option.some (Sum.inr (Sum.inr (s0.snd, (12 : Int))))
                else
                  bif Option.getD (Tr.amGet (Tr.keyEq Y9) x1.fst s0.fst) (Tr.zeroEl Y4) then Option.some (Sum.inr (Sum.inr (s0.snd, (6 : Int))))
                  else
                    Option.bind
                      (bif Decidable.decide (x1.snd.fst < (0 : Int)) then Option.some Bool.true
                      else
                        bif Decidable.decide ((16 : Int) ≤ x1.snd.fst) then Option.some Bool.true
                        else bif Decidable.decide (x1.snd.snd.snd.fst < (0 : Int)) then Option.some Bool.true else Option.some (Decidable.decide ((3600 : Int) < x1.snd.snd.snd.fst)))
                      fun x3 =>
                      bif x3 then Option.some (Sum.inr (Sum.inr (s0.snd, (2 : Int))))
                      else Option.some (Sum.inl (Tr.amSet (Tr.keyEq Y9) x1.fst Bool.true s0.fst, Go.IntKind.wrap Go.IntKind.i64 (s0.snd + (1 : Int))))
          else Option.some (Sum.inr (Sum.inl ())))
        ([], (0 : Int)))
      fun x4 => Sum.elim (fun y5 => Option.some ((0 : Int), (0 : Int))) (fun y6 => Option.some (y6.fst, y6.snd)) x4
abbrev F32A : Pats := (.cons (.pd Y31) .nil)
abbrev F32R : Pats := (.cons (.pd Y3) (.cons (.pd Y42) .nil))
noncomputable def F32S : Tr.Spec := { args := F32A, res := F32R, fns := [], α := El Y3 × El Y42, f := fun x => F32 x.1, unp := fun z => (((), ()), (z.1, z.2, ())) }
noncomputable def F32E : Env := { ty := fun n => tyTab.lookup n, mty := fun n => mapTab.lookup n, pk := fun n => (pkTab.lookup n).getD 0, rw := fun n => [].contains n, specs := fun n => (([(47, [F47S])] : List (Nat × List Tr.Spec)).lookup n).getD [], nt := 54, ks := [] }
noncomputable def F32B : Code := match Try.f32.body with | some b => b | none => .skip
def F32H : Hint := (.seq .leaf (.seq .leaf (.seq .leaf (.seq (.seq .leaf (.lp ⟨[(4, (.map Y9 Y4)), (13, (.pd Y3))], [], [11, 12]⟩ [((.exit 0), ⟨[], [], []⟩), (.ret, ⟨[(2, (.pd Y3)), (3, (.pd Y42))], [], []⟩)] (.seq .leaf (.seq .leaf (.seq (.seq .leaf (.seq (.seq .leaf (.cnd none .leaf (.seq .leaf (.cnd none .leaf (.seq (.reg [(30, Y4)]) .leaf))))) .leaf)) .leaf))))) .leaf))))
noncomputable def F32V (a0 : El Y31) : Option (El Y3 × El Y42) := evalF F32E F32B Try.f32.results F32H F32A F32R (fun y => (y.2.1, y.2.2.1)) (a0, ())
theorem F32_eq (a0 : El Y31) : F32V a0 = F32 a0 := by kernel_rfl
theorem F32_ok : FnOK Try.prog 32 F32S := evalF_ok (E := F32E) (fn := Try.f32) (body := F32B) (hint := F32H) (pack := fun y => (y.2.1, y.2.2.1)) hmix (typesOk_of tab_ok rfl rfl rfl) (specsOk_of (m := [(47, [F47S])]) ⟨⟨F47_ok, trivial⟩, trivial⟩ rfl) (by kernel_rfl) (by kernel_rfl) (by kernel_rfl) (by kernel_rfl) (by kernel_rfl) (by kernel_rfl) (fun y => rfl)
  (fun x z h => (F32_eq x.1).trans h)
noncomputable def F48 : (El Y3) → Option (El Y4) := fun a0 => Option.bind (bif Decidable.decide ((0 : Int) ≤ a0) then Option.some (Decidable.decide (a0 < (8 : Int))) else Option.some Bool.false) fun x0 => Option.some x0
abbrev F48A : Pats := (.cons (.pd Y3) .nil)
abbrev F48R : Pats := (.cons (.pd Y4) .nil)
noncomputable def F48S : Tr.Spec := { args := F48A, res := F48R, fns := [], α := El Y4, f := fun x => F48 x.1, unp := fun z => (((), ()), (z, ())) }
noncomputable def F48E : Env := { ty := fun n => tyTab.lookup n, mty := fun n => mapTab.lookup n, pk := fun n => (pkTab.lookup n).getD 0, rw := fun n => [].contains n, specs := fun n => (([] : List (Nat × List Tr.Spec)).lookup n).getD [], nt := 9, ks := [] }
noncomputable def F48B : Code := match Try.f48.body with | some b => b | none => .skip
def F48H : Hint := (.seq .leaf (.seq (.reg [(2, Y4)]) .leaf))
noncomputable def F48V (a0 : El Y3) : Option (El Y4) := evalF F48E F48B Try.f48.results F48H F48A F48R (fun y => y.2.1) (a0, ())
theorem F48_eq (a0 : El Y3) : F48V a0 = F48 a0 := by kernel_rfl
theorem F48_ok : FnOK Try.prog 48 F48S := evalF_ok (E := F48E) (fn := Try.f48) (body := F48B) (hint := F48H) (pack := fun y => y.2.1) hmix (typesOk_of tab_ok rfl rfl rfl) (specsOk_of (m := []) trivial rfl) (by kernel_rfl) (by kernel_rfl) (by kernel_rfl) (by kernel_rfl) (by kernel_rfl) (by kernel_rfl) (fun y => rfl)
  (fun x z h => (F48_eq x.1).trans h)
noncomputable def F33 : (El Y32) → Option (El Y3 × El Y42) := fun a0 =>
  bif Decidable.decide ((64 : Int) < (↑(List.length a0) : Int)) then Option.some ((0 : Int), (5 : Int))
  else
    Option.bind
      (Tr.run
        (fun s0 =>
          bif Decidable.decide (s0.snd < (↑(List.length a0) : Int)) then
            Option.bind (Tr.idx a0 s0.snd) fun x1 =>
              Option.bind (F47 x1.fst) fun x2 =>
                bif !x2 then Option.some (Sum.inr (Sum.inr (s0.snd, (12 : Int))))
                else
                  bif Option.getD (Tr.amGet (Tr.keyEq Y9) x1.fst s0.fst) (Tr.zeroEl Y4) then Option.some (Sum.inr (Sum.inr (s0.snd, (6 : Int))))
                  else
                    Option.bind (F48 x1.snd.fst) fun x3 =>
                      bif !x3 then Option.some (Sum.inr (Sum.inr (s0.snd, (2 : Int))))
                      else Option.some (Sum.inl (Tr.amSet (Tr.keyEq Y9) x1.fst Bool.true s0.fst, Go.IntKind.wrap Go.IntKind.i64 (s0.snd + (1 : Int))))
          else Option.some (Sum.inr (Sum.inl ())))
        ([], (0 : Int)))
      fun x4 => Sum.elim (fun y5 => Option.some ((0 : Int), (0 : Int))) (fun y6 => Option.some (y6.fst, y6.snd)) x4
abbrev F33A : Pats := (.cons (.pd Y32) .nil)
abbrev F33R : Pats := (.cons (.pd Y3) (.cons (.pd Y42) .nil))
noncomputable def F33S : Tr.Spec := { args := F33A, res := F33R, fns := [], α := El Y3 × El Y42, f := fun x => F33 x.1, unp := fun z => (((), ()), (z.1, z.2, ())) }
noncomputable def F33E : Env := { ty := fun n => tyTab.lookup n, mty := fun n => mapTab.lookup n, pk := fun n => (pkTab.lookup n).getD 0, rw := fun n => [].contains n, specs := fun n => (([(47, [F47S]), (48, [F48S])] : List (Nat × List Tr.Spec)).lookup n).getD [], nt := 37, ks := [] }
noncomputable def F33B : Code := match Try.f33.body with | some b => b | none => .skip
def F33H : Hint := (.seq .leaf (.seq .leaf (.seq .leaf (.seq (.seq .leaf (.lp ⟨[(4, (.map Y9 Y4)), (13, (.pd Y3))], [], [11, 12]⟩ [((.exit 0), ⟨[], [], []⟩), (.ret, ⟨[(2, (.pd Y3)), (3, (.pd Y42))], [], []⟩)] .leaf)) .leaf))))
noncomputable def F33V (a0 : El Y32) : Option (El Y3 × El Y42) := evalF F33E F33B Try.f33.results F33H F33A F33R (fun y => (y.2.1, y.2.2.1)) (a0, ())
theorem F33_eq (a0 : El Y32) : F33V a0 = F33 a0 := by kernel_rfl
theorem F33_ok : FnOK Try.prog 33 F33S := evalF_ok (E := F33E) (fn := Try.f33) (body := F33B) (hint := F33H) (pack := fun y => (y.2.1, y.2.2.1)) hmix (typesOk_of tab_ok rfl rfl rfl) (specsOk_of (m := [(47, [F47S]), (48, [F48S])]) ⟨⟨F47_ok, trivial⟩, ⟨F48_ok, trivial⟩, trivial⟩ rfl) (by kernel_rfl) (by kernel_rfl) (by kernel_rfl) (by kernel_rfl) (by kernel_rfl) (by kernel_rfl) (fun y => rfl)
  (fun x z h => (F33_eq x.1).trans h)
noncomputable def F34 : (El Y92) → Option (El Y73) := fun a0 =>
  Option.bind
    (Tr.run
      (fun s0 =>
        bif Decidable.decide (s0.snd < (↑(List.length a0) : Int)) then
          Option.bind (Tr.idx a0 s0.snd) fun x1 =>
            bif !Decidable.decide (x1.snd.snd.fst = (0 : Int)) then Option.some (Sum.inr (Sum.inr x1)) else Option.some (Sum.inl (s0.fst, Go.IntKind.wrap Go.IntKind.i64 (s0.snd + (1 : Int))))
        else Option.some (Sum.inr (Sum.inl s0.fst)))
      (Tr.zeroEl Y73, (0 : Int)))
    fun x2 => Sum.elim (fun y3 => Option.some (Tr.zeroEl Y3, Tr.zeroEl Y3, Tr.zeroEl Y42, ())) (fun y4 => Option.some y4) x2
abbrev F34A : Pats := (.cons (.pd Y92) .nil)
abbrev F34R : Pats := (.cons (.pd Y73) .nil)
noncomputable def F34S : Tr.Spec := { args := F34A, res := F34R, fns := [], α := El Y73, f := fun x => F34 x.1, unp := fun z => (((), ()), (z, ())) }
noncomputable def F34E : Env := { ty := fun n => tyTab.lookup n, mty := fun n => mapTab.lookup n, pk := fun n => (pkTab.lookup n).getD 0, rw := fun n => [].contains n, specs := fun n => (([] : List (Nat × List Tr.Spec)).lookup n).getD [], nt := 17, ks := [] }
noncomputable def F34B : Code := match Try.f34.body with | some b => b | none => .skip
def F34H : Hint := (.seq .leaf (.seq (.seq .leaf (.lp ⟨[(2, (.var Y73 (.pd Y73))), (7, (.pd Y3))], [], [5, 6]⟩ [((.exit 0), ⟨[(2, (.var Y73 (.pd Y73)))], [], []⟩), (.ret, ⟨[(2, (.var Y73 (.pd Y73)))], [], []⟩)] .leaf)) .leaf))
noncomputable def F34V (a0 : El Y92) : Option (El Y73) := evalF F34E F34B Try.f34.results F34H F34A F34R (fun y => y.2.1) (a0, ())
theorem F34_eq (a0 : El Y92) : F34V a0 = F34 a0 := by kernel_rfl
theorem F34_ok : FnOK Try.prog 34 F34S := evalF_ok (E := F34E) (fn := Try.f34) (body := F34B) (hint := F34H) (pack := fun y => y.2.1) hmix (typesOk_of tab_ok rfl rfl rfl) (specsOk_of (m := []) trivial rfl) (by kernel_rfl) (by kernel_rfl) (by kernel_rfl) (by kernel_rfl) (by kernel_rfl) (by kernel_rfl) (fun y => rfl)
  (fun x z h => (F34_eq x.1).trans h)
noncomputable def F35 : (El Y3) → (El Y3) → (El Y42) → Option (El Y73) := fun a0 a1 a2 => Option.some (a0, a1, a2, ())
abbrev F35A : Pats := (.cons (.pd Y3) (.cons (.pd Y3) (.cons (.pd Y42) .nil)))
abbrev F35R : Pats := (.cons (.pd Y73) .nil)
noncomputable def F35S : Tr.Spec := { args := F35A, res := F35R, fns := [], α := El Y73, f := fun x => F35 x.1 x.2.1 x.2.2.1, unp := fun z => (((), (), (), ()), (z, ())) }
noncomputable def F35E : Env := { ty := fun n => tyTab.lookup n, mty := fun n => mapTab.lookup n, pk := fun n => (pkTab.lookup n).getD 0, rw := fun n => [].contains n, specs := fun n => (([] : List (Nat × List Tr.Spec)).lookup n).getD [], nt := 11, ks := [] }
noncomputable def F35B : Code := match Try.f35.body with | some b => b | none => .skip
def F35H : Hint := .leaf
noncomputable def F35V (a0 : El Y3) (a1 : El Y3) (a2 : El Y42) : Option (El Y73) := evalF F35E F35B Try.f35.results F35H F35A F35R (fun y => y.2.1) (a0, a1, a2, ())
theorem F35_eq (a0 : El Y3) (a1 : El Y3) (a2 : El Y42) : F35V a0 a1 a2 = F35 a0 a1 a2 := by kernel_rfl
theorem F35_ok : FnOK Try.prog 35 F35S := evalF_ok (E := F35E) (fn := Try.f35) (body := F35B) (hint := F35H) (pack := fun y => y.2.1) hmix (typesOk_of tab_ok rfl rfl rfl) (specsOk_of (m := []) trivial rfl) (by kernel_rfl) (by kernel_rfl) (by kernel_rfl) (by kernel_rfl) (by kernel_rfl) (by kernel_rfl) (fun y => rfl)
  (fun x z h => (F35_eq x.1 x.2.1 x.2.2.1).trans h)
noncomputable def F65 : (El Y46) → (El Y3) → (El Y3) → (El Y3) → (El Y3) → Option (El Y42) := fun a0 a1 a2 a3 a4 =>
  Option.bind (Tr.idx a0 a1) fun x0 =>
    Option.bind (bif Decidable.decide (x0.fst < (0 : Int)) then Option.some Bool.true else Option.some (Decidable.decide (a2 ≤ x0.fst))) fun x1 =>
      bif x1 then Option.some (9 : Int)
      else
        Option.bind
          (bif Decidable.decide ((0 : Int) < a1) then Option.bind (Tr.idx a0 (Go.IntKind.wrap Go.IntKind.i64 (a1 - (1 : Int)))) fun x2 => Option.some (Decidable.decide (x2.fst = x0.fst))
          else Option.some Bool.false)
          fun x3 =>
          bif x3 then Option.some (13 : Int)
          else
            Option.bind
              (bif Decidable.decide (x0.snd.fst < a3) then Option.some Bool.true
              else
                bif Decidable.decide (x0.snd.snd.fst < x0.snd.fst) then Option.some Bool.true
                else
                  bif Decidable.decide (a4 < x0.snd.snd.fst) then Option.some Bool.true
                  else
                    bif Decidable.decide ((0 : Int) < a1) then
                      Option.bind (Tr.idx a0 (Go.IntKind.wrap Go.IntKind.i64 (a1 - (1 : Int)))) fun x4 => Option.some (Decidable.decide (x0.snd.fst < x4.snd.snd.fst))
                    else Option.some Bool.false)
              fun x5 => bif x5 then Option.some (10 : Int) else Option.some (0 : Int)
abbrev F65A : Pats := (.cons (.pd Y46) (.cons (.pd Y3) (.cons (.pd Y3) (.cons (.pd Y3) (.cons (.pd Y3) .nil)))))
abbrev F65R : Pats := (.cons (.pd Y42) .nil)
noncomputable def F65S : Tr.Spec := { args := F65A, res := F65R, fns := [], α := El Y42, f := fun x => F65 x.1 x.2.1 x.2.2.1 x.2.2.2.1 x.2.2.2.2.1, unp := fun z => (((), (), (), (), (), ()), (z, ())) }
noncomputable def F65E : Env := { ty := fun n => tyTab.lookup n, mty := fun n => mapTab.lookup n, pk := fun n => (pkTab.lookup n).getD 0, rw := fun n => [].contains n, specs := fun n => (([] : List (Nat × List Tr.Spec)).lookup n).getD [], nt := 70, ks := [] }
noncomputable def F65B : Code := match Try.f65.body with | some b => b | none => .skip
def F65H : Hint := (.seq .leaf (.seq .leaf (.seq (.seq (.reg [(24, Y4)]) .leaf) (.seq (.seq (.reg [(37, Y4)]) .leaf) (.seq (.seq (.reg [(69, Y4)]) .leaf) .leaf)))))
noncomputable def F65V (a0 : El Y46) (a1 : El Y3) (a2 : El Y3) (a3 : El Y3) (a4 : El Y3) : Option (El Y42) := evalF F65E F65B Try.f65.results F65H F65A F65R (fun y => y.2.1) (a0, a1, a2, a3, a4, ())
theorem F65_eq (a0 : El Y46) (a1 : El Y3) (a2 : El Y3) (a3 : El Y3) (a4 : El Y3) : F65V a0 a1 a2 a3 a4 = F65 a0 a1 a2 a3 a4 := by kernel_rfl
theorem F65_ok : FnOK Try.prog 65 F65S := evalF_ok (E := F65E) (fn := Try.f65) (body := F65B) (hint := F65H) (pack := fun y => y.2.1) hmix (typesOk_of tab_ok rfl rfl rfl) (specsOk_of (m := []) trivial rfl) (by kernel_rfl) (by kernel_rfl) (by kernel_rfl) (by kernel_rfl) (by kernel_rfl) (by kernel_rfl) (fun y => rfl)
  (fun x z h => (F65_eq x.1 x.2.1 x.2.2.1 x.2.2.2.1 x.2.2.2.2.1).trans h)
noncomputable def F49 : (El Y46) → (El Y3) → (El Y3) → (El Y3) → Option (El Y3 × El Y42) := fun a0 a1 a2 a3 =>
  Option.bind (bif Decidable.decide ((↑(List.length a0) : Int) < (2 : Int)) then Option.some Bool.true else Option.some (Decidable.decide ((32 : Int) < (↑(List.length a0) : Int)))) fun x0 =>
    bif x0 then Option.some ((0 : Int), (5 : Int))
    else
      Option.bind
        (Tr.run
          (fun s1 =>
            bif Decidable.decide (s1 < (↑(List.length a0) : Int)) then
              Option.bind (F65 a0 s1 a1 a2 a3) fun x2 =>
                bif !Decidable.decide (x2 = (0 : Int)) then Option.some (Sum.inr (Sum.inr (s1, x2))) else Option.some (Sum.inl (Go.IntKind.wrap Go.IntKind.i64 (s1 + (1 : Int))))
            else Option.some (Sum.inr (Sum.inl ())))
          (0 : Int))
        fun x3 => Sum.elim (fun y4 => Option.some ((0 : Int), (0 : Int))) (fun y5 => Option.some (y5.fst, y5.snd)) x3
abbrev F49A : Pats := (.cons (.pd Y46) (.cons (.pd Y3) (.cons (.pd Y3) (.cons (.pd Y3) .nil))))
abbrev F49R : Pats := (.cons (.pd Y3) (.cons (.pd Y42) .nil))
noncomputable def F49S : Tr.Spec := { args := F49A, res := F49R, fns := [], α := El Y3 × El Y42, f := fun x => F49 x.1 x.2.1 x.2.2.1 x.2.2.2.1, unp := fun z => (((), (), (), (), ()), (z.1, z.2, ())) }
noncomputable def F49E : Env := { ty := fun n => tyTab.lookup n, mty := fun n => mapTab.lookup n, pk := fun n => (pkTab.lookup n).getD 0, rw := fun n => [].contains n, specs := fun n => (([(65, [F65S])] : List (Nat × List Tr.Spec)).lookup n).getD [], nt := 36, ks := [] }
noncomputable def F49B : Code := match Try.f49.body with | some b => b | none => .skip
def F49H : Hint := (.seq .leaf (.seq (.seq (.reg [(19, Y4)]) .leaf) (.seq (.seq .leaf (.lp ⟨[(22, (.pd Y3))], [], [0, 1, 2, 3, 21]⟩ [((.exit 0), ⟨[], [], []⟩), (.ret, ⟨[(8, (.pd Y3)), (9, (.pd Y42))], [], []⟩)] .leaf)) .leaf)))
noncomputable def F49V (a0 : El Y46) (a1 : El Y3) (a2 : El Y3) (a3 : El Y3) : Option (El Y3 × El Y42) := evalF F49E F49B Try.f49.results F49H F49A F49R (fun y => (y.2.1, y.2.2.1)) (a0, a1, a2, a3, ())
theorem F49_eq (a0 : El Y46) (a1 : El Y3) (a2 : El Y3) (a3 : El Y3) : F49V a0 a1 a2 a3 = F49 a0 a1 a2 a3 := by kernel_rfl
theorem F49_ok : FnOK Try.prog 49 F49S := evalF_ok (E := F49E) (fn := Try.f49) (body := F49B) (hint := F49H) (pack := fun y => (y.2.1, y.2.2.1)) hmix (typesOk_of tab_ok rfl rfl rfl) (specsOk_of (m := [(65, [F65S])]) ⟨⟨F65_ok, trivial⟩, trivial⟩ rfl) (by kernel_rfl) (by kernel_rfl) (by kernel_rfl) (by kernel_rfl) (by kernel_rfl) (by kernel_rfl) (fun y => rfl)
  (fun x z h => (F49_eq x.1 x.2.1 x.2.2.1 x.2.2.2.1).trans h)
noncomputable def F36 : (El Y40) → Option (El Y73) := fun a0 =>
  bif Decidable.decide ((1024 : Int) < (↑(List.length a0.snd.snd.fst) : Int)) then Option.bind (F35 (2 : Int) (0 : Int) (5 : Int)) fun x0 => Option.some x0
  else
    Option.bind
      (Tr.run
        (fun s1 =>
          bif Decidable.decide (s1.snd.snd < (↑(List.length a0.snd.snd.fst) : Int)) then
            Option.bind (Tr.idx a0.snd.snd.fst s1.snd.snd) fun x2 =>
              Option.bind (F47 x2.snd.snd.snd.fst) fun x3 =>
                bif !x3 then Option.bind (F35 (2 : Int) s1.snd.snd (12 : Int)) fun x4 => Option.some (Sum.inr (Sum.inr x4))
                else
                  Option.bind (bif Decidable.decide (x2.fst < (-1 : Int)) then Option.some Bool.true else Option.some (Decidable.decide (x2.snd.snd.fst < (0 : Int)))) fun x5 =>
                    bif x5 then Option.bind (F35 (2 : Int) s1.snd.snd (2 : Int)) fun x6 => Option.some (Sum.inr (Sum.inr x6))
                    else
                      Option.bind (bif Decidable.decide (x2.snd.fst < (0 : Int)) then Option.some Bool.true else Option.some (Decidable.decide ((36524 : Int) < x2.snd.fst))) fun x7 =>
                        bif x7 then Option.bind (F35 (2 : Int) s1.snd.snd (11 : Int)) fun x8 => Option.some (Sum.inr (Sum.inr x8))
                        else
                          Option.bind
                            (bif Decidable.decide (x2.snd.snd.snd.snd.fst < (0 : Int)) then Option.some Bool.true
                            else Option.some (Decidable.decide ((↑(List.length a0.snd.fst) : Int) ≤ x2.snd.snd.snd.snd.fst)))
                            fun x9 =>
                            bif x9 then Option.bind (F35 (2 : Int) s1.snd.snd (9 : Int)) fun x10 => Option.some (Sum.inr (Sum.inr x10))
                            else
                              Option.bind (F49 x2.snd.snd.snd.snd.snd.snd.snd.fst (↑(List.length a0.fst) : Int) (0 : Int) (3155932800 : Int)) fun x11 =>
                                bif !Decidable.decide (x11.snd = (0 : Int)) then Option.bind (F35 (2 : Int) s1.snd.snd x11.snd) fun x12 => Option.some (Sum.inr (Sum.inr x12))
                                else
                                  bif Option.getD (Tr.amGet (Tr.keyEq Y96) (x2.snd.snd.snd.fst, x2.snd.fst, x2.snd.snd.fst, ()) s1.snd.fst) (Tr.zeroEl Y4) then
                                    Option.bind (F35 (2 : Int) s1.snd.snd (6 : Int)) fun x13 => Option.some (Sum.inr (Sum.inr x13))
                                  else
                                    Option.some
                                      (Sum.inl
                                        (s1.fst, Tr.amSet (Tr.keyEq Y96) (x2.snd.snd.snd.fst, x2.snd.fst, x2.snd.snd.fst, ()) Bool.true s1.snd.fst,
                                          Go.IntKind.wrap Go.IntKind.i64 (s1.snd.snd + (1 : Int))))
          else Option.some (Sum.inr (Sum.inl s1.fst)))
        (Tr.zeroEl Y73, [], (0 : Int)))
      fun x14 => Sum.elim (fun y15 => Option.some (Tr.zeroEl Y3, Tr.zeroEl Y3, Tr.zeroEl Y42, ())) (fun y16 => Option.some y16) x14
abbrev F36A : Pats := (.cons (.pd Y40) .nil)
abbrev F36R : Pats := (.cons (.pd Y73) .nil)
noncomputable def F36S : Tr.Spec := { args := F36A, res := F36R, fns := [], α := El Y73, f := fun x => F36 x.1, unp := fun z => (((), ()), (z, ())) }
noncomputable def F36E : Env := { ty := fun n => tyTab.lookup n, mty := fun n => mapTab.lookup n, pk := fun n => (pkTab.lookup n).getD 0, rw := fun n => [].contains n, specs := fun n => (([(35, [F35S]), (47, [F47S]), (49, [F49S])] : List (Nat × List Tr.Spec)).lookup n).getD [], nt := 96, ks := [] }
noncomputable def F36B : Code := match Try.f36.body with | some b => b | none => .skip
def F36H : Hint := (.seq .leaf (.seq .leaf (.seq .leaf (.seq (.seq .leaf (.lp ⟨[(2, (.var Y73 (.pd Y73))), (3, (.map Y96 Y4)), (18, (.pd Y3))], [], [1, 16, 17]⟩ [((.exit 0), ⟨[(2, (.var Y73 (.pd Y73)))], [], []⟩), (.ret, ⟨[(2, (.var Y73 (.pd Y73)))], [], []⟩)] (.seq .leaf (.seq .leaf (.seq (.seq .leaf (.seq (.seq .leaf (.cnd none .leaf (.seq (.reg [(30, Y4)]) (.cnd none .leaf (.seq (.reg [(41, Y4)]) (.cnd none .leaf (.seq (.reg [(52, Y4)]) .leaf))))))) .leaf)) .leaf))))) .leaf))))
noncomputable def F36V (a0 : El Y40) : Option (El Y73) := evalF F36E F36B Try.f36.results F36H F36A F36R (fun y => y.2.1) (a0, ())
theorem F36_eq (a0 : El Y40) : F36V a0 = F36 a0 := by kernel_rfl
theorem F36_ok : FnOK Try.prog 36 F36S := evalF_ok (E := F36E) (fn := Try.f36) (body := F36B) (hint := F36H) (pack := fun y => y.2.1) hmix (typesOk_of tab_ok rfl rfl rfl) (specsOk_of (m := [(35, [F35S]), (47, [F47S]), (49, [F49S])]) ⟨⟨F35_ok, trivial⟩, ⟨F47_ok, trivial⟩, ⟨F49_ok, trivial⟩, trivial⟩ rfl) (by kernel_rfl) (by kernel_rfl) (by kernel_rfl) (by kernel_rfl) (by kernel_rfl) (by kernel_rfl) (fun y => rfl)
  (fun x z h => (F36_eq x.1).trans h)
noncomputable def F50 : (El Y3) → (El Y3) → Option (El Y4) := fun a0 a1 => Option.bind (bif Decidable.decide ((0 : Int) ≤ a0) then Option.some (Decidable.decide (a0 < a1)) else Option.some Bool.false) fun x0 => Option.some x0
abbrev F50A : Pats := (.cons (.pd Y3) (.cons (.pd Y3) .nil))
abbrev F50R : Pats := (.cons (.pd Y4) .nil)
noncomputable def F50S : Tr.Spec := { args := F50A, res := F50R, fns := [], α := El Y4, f := fun x => F50 x.1 x.2.1, unp := fun z => (((), (), ()), (z, ())) }
noncomputable def F50E : Env := { ty := fun n => tyTab.lookup n, mty := fun n => mapTab.lookup n, pk := fun n => (pkTab.lookup n).getD 0, rw := fun n => [].contains n, specs := fun n => (([] : List (Nat × List Tr.Spec)).lookup n).getD [], nt := 12, ks := [] }
noncomputable def F50B : Code := match Try.f50.body with | some b => b | none => .skip
def F50H : Hint := (.seq .leaf (.seq (.reg [(4, Y4)]) .leaf))
noncomputable def F50V (a0 : El Y3) (a1 : El Y3) : Option (El Y4) := evalF F50E F50B Try.f50.results F50H F50A F50R (fun y => y.2.1) (a0, a1, ())
theorem F50_eq (a0 : El Y3) (a1 : El Y3) : F50V a0 a1 = F50 a0 a1 := by kernel_rfl
theorem F50_ok : FnOK Try.prog 50 F50S := evalF_ok (E := F50E) (fn := Try.f50) (body := F50B) (hint := F50H) (pack := fun y => y.2.1) hmix (typesOk_of tab_ok rfl rfl rfl) (specsOk_of (m := []) trivial rfl) (by kernel_rfl) (by kernel_rfl) (by kernel_rfl) (by kernel_rfl) (by kernel_rfl) (by kernel_rfl) (fun y => rfl)
  (fun x z h => (F50_eq x.1 x.2.1).trans h)
noncomputable def F51 : (List (El Y3 × El Y3)) → (El Y3) → (El Y3) → Option (List (El Y3 × El Y3) × El Y4) := fun a0 a1 a2 =>
  Option.bind
    (Tr.run
      (fun s0 =>
        bif s0.snd then
          bif Decidable.decide (s0.fst = a2) then Option.some (Sum.inr (Sum.inr Bool.true))
          else Option.some (Sum.inl (Option.getD (Tr.amGet (Tr.keyEq Y3) s0.fst a0) (Tr.zeroEl Y3), Option.isSome (Tr.amGet (Tr.keyEq Y3) s0.fst a0)))
        else Option.some (Sum.inr (Sum.inl ())))
      (Option.getD (Tr.amGet (Tr.keyEq Y3) a1 a0) (Tr.zeroEl Y3), Option.isSome (Tr.amGet (Tr.keyEq Y3) a1 a0)))
    fun x1 => Sum.elim (fun y2 => Option.some (a0, Bool.false)) (fun y3 => Option.some (a0, y3)) x1
abbrev F51A : Pats := (.cons (.map Y3 Y3) (.cons (.pd Y3) (.cons (.pd Y3) .nil)))
abbrev F51R : Pats := (.cons (.pd Y4) .nil)
noncomputable def F51S : Tr.Spec := { args := F51A, res := F51R, fns := [], α := List (El Y3 × El Y3) × El Y4, f := fun x => F51 x.1 x.2.1 x.2.2.1, unp := fun z => ((z.1, (), (), ()), (z.2, ())) }
noncomputable def F51E : Env := { ty := fun n => tyTab.lookup n, mty := fun n => mapTab.lookup n, pk := fun n => (pkTab.lookup n).getD 0, rw := fun n => [].contains n, specs := fun n => (([] : List (Nat × List Tr.Spec)).lookup n).getD [], nt := 25, ks := [] }
noncomputable def F51B : Code := match Try.f51.body with | some b => b | none => .skip
def F51H : Hint := (.seq .leaf (.seq (.seq .leaf (.lp ⟨[(7, (.pd Y3)), (8, (.pd Y4))], [], [0, 2]⟩ [((.exit 0), ⟨[], [], [0]⟩), (.ret, ⟨[(6, (.pd Y4))], [], [0]⟩)] .leaf)) .leaf))
noncomputable def F51V (a0 : List (El Y3 × El Y3)) (a1 : El Y3) (a2 : El Y3) : Option (List (El Y3 × El Y3) × El Y4) := evalF F51E F51B Try.f51.results F51H F51A F51R (fun y => (y.1.1, y.2.1)) (a0, a1, a2, ())
theorem F51_eq (a0 : List (El Y3 × El Y3)) (a1 : El Y3) (a2 : El Y3) : F51V a0 a1 a2 = F51 a0 a1 a2 := by kernel_rfl
theorem F51_ok : FnOK Try.prog 51 F51S := evalF_ok (E := F51E) (fn := Try.f51) (body := F51B) (hint := F51H) (pack := fun y => (y.1.1, y.2.1)) hmix (typesOk_of tab_ok rfl rfl rfl) (specsOk_of (m := []) trivial rfl) (by kernel_rfl) (by kernel_rfl) (by kernel_rfl) (by kernel_rfl) (by kernel_rfl) (by kernel_rfl) (fun y => rfl)
  (fun x z h => (F51_eq x.1 x.2.1 x.2.2.1).trans h)
noncomputable def F37 : (El Y40) → Option (El Y73) := fun a0 =>
  bif Decidable.decide ((1024 : Int) < (↑(List.length a0.snd.snd.snd.fst) : Int)) then Option.bind (F35 (3 : Int) (0 : Int) (5 : Int)) fun x0 => Option.some x0
  else
    Option.bind
      (Tr.run
        (fun s1 =>
          bif Decidable.decide (s1.snd.snd.snd.snd < (↑(List.length a0.snd.snd.snd.fst) : Int)) then
            Option.bind (Tr.idx a0.snd.snd.snd.fst s1.snd.snd.snd.snd) fun x2 =>
              Option.bind
                (Option.bind (F50 x2.fst (↑(List.length a0.snd.snd.fst) : Int)) fun x3 =>
                  bif !x3 then Option.some Bool.true
                  else
                    Option.bind (F50 x2.snd.snd.fst (↑(List.length a0.snd.snd.fst) : Int)) fun x4 => bif !x4 then Option.some Bool.true else Option.some (Decidable.decide (x2.fst = x2.snd.snd.fst)))
                fun x5 =>
                bif x5 then Option.bind (F35 (3 : Int) s1.snd.snd.snd.snd (9 : Int)) fun x6 => Option.some (Sum.inr (Sum.inr x6))
                else
                  Option.bind (Tr.idx a0.snd.snd.fst x2.fst) fun x7 =>
                    Option.bind (Tr.idx a0.snd.snd.fst x2.snd.snd.fst) fun x8 =>
                      Option.bind
                        (Option.bind (F50 x2.snd.fst (↑(List.length x7.snd.snd.snd.snd.snd.snd.snd.fst) : Int)) fun x9 =>
                          bif !x9 then Option.some Bool.true else Option.bind (F50 x2.snd.snd.snd.fst (↑(List.length x8.snd.snd.snd.snd.snd.snd.snd.fst) : Int)) fun x10 => Option.some !x10)
                        fun x11 =>
                        bif x11 then Option.bind (F35 (3 : Int) s1.snd.snd.snd.snd (9 : Int)) fun x12 => Option.some (Sum.inr (Sum.inr x12))
                        else
                          Option.bind (Tr.idx x7.snd.snd.snd.snd.snd.snd.snd.fst x2.snd.fst) fun x13 =>
                            Option.bind (Tr.idx x8.snd.snd.snd.snd.snd.snd.snd.fst x2.snd.snd.snd.fst) fun x14 =>
                              bif !Decidable.decide (x13.fst = x14.fst) then Option.bind (F35 (3 : Int) s1.snd.snd.snd.snd (13 : Int)) fun x15 => Option.some (Sum.inr (Sum.inr x15))
                              else
                                bif x2.snd.snd.snd.snd.fst then
                                  bif !Decidable.decide (Go.IntKind.wrap Go.IntKind.i64 (x2.snd.fst + (1 : Int)) = (↑(List.length x7.snd.snd.snd.snd.snd.snd.snd.fst) : Int)) then
                                    Option.bind (F35 (3 : Int) s1.snd.snd.snd.snd (19 : Int)) fun x16 => Option.some (Sum.inr (Sum.inr x16))
                                  else
                                    bif !Decidable.decide (x2.snd.snd.snd.fst = (0 : Int)) then Option.bind (F35 (3 : Int) s1.snd.snd.snd.snd (19 : Int)) fun x17 => Option.some (Sum.inr (Sum.inr x17))
                                    else
                                      bif Option.isSome (Tr.amGet (Tr.keyEq Y3) x2.fst s1.snd.fst) then
                                        Option.bind (F35 (3 : Int) s1.snd.snd.snd.snd (19 : Int)) fun x18 => Option.some (Sum.inr (Sum.inr x18))
                                      else
                                        bif Option.getD (Tr.amGet (Tr.keyEq Y3) x2.snd.snd.fst s1.snd.snd.fst) (Tr.zeroEl Y4) then
                                          Option.bind (F35 (3 : Int) s1.snd.snd.snd.snd (19 : Int)) fun x19 => Option.some (Sum.inr (Sum.inr x19))
                                        else
                                          Option.bind (F51 s1.snd.fst x2.snd.snd.fst x2.fst) fun x20 =>
                                            bif x20.snd then Option.bind (F35 (3 : Int) s1.snd.snd.snd.snd (19 : Int)) fun x21 => Option.some (Sum.inr (Sum.inr x21))
                                            else
                                              bif Option.getD (Tr.amGet (Tr.keyEq Y54) [x2.fst, x2.snd.fst, x2.snd.snd.fst, x2.snd.snd.snd.fst] s1.snd.snd.snd.fst) (Tr.zeroEl Y4) then
                                                Option.bind (F35 (3 : Int) s1.snd.snd.snd.snd (6 : Int)) fun x22 => Option.some (Sum.inr (Sum.inr x22))
                                              else
                                                bif x2.snd.snd.snd.snd.fst then
                                                  Option.some
                                                    (Sum.inl
                                                      (s1.fst, Tr.amSet (Tr.keyEq Y3) x2.fst x2.snd.snd.fst x20.fst, Tr.amSet (Tr.keyEq Y3) x2.snd.snd.fst Bool.true s1.snd.snd.fst,
                                                        Tr.amSet (Tr.keyEq Y54) [x2.fst, x2.snd.fst, x2.snd.snd.fst, x2.snd.snd.snd.fst] Bool.true s1.snd.snd.snd.fst,
                                                        Go.IntKind.wrap Go.IntKind.i64 (s1.snd.snd.snd.snd + (1 : Int))))
                                                else
                                                  Option.some
                                                    (Sum.inl
                                                      (s1.fst, x20.fst, s1.snd.snd.fst, Tr.amSet (Tr.keyEq Y54) [x2.fst, x2.snd.fst, x2.snd.snd.fst, x2.snd.snd.snd.fst] Bool.true s1.snd.snd.snd.fst,
                                                        Go.IntKind.wrap Go.IntKind.i64 (s1.snd.snd.snd.snd + (1 : Int))))
                                else
                                  bif Option.getD (Tr.amGet (Tr.keyEq Y54) [x2.fst, x2.snd.fst, x2.snd.snd.fst, x2.snd.snd.snd.fst] s1.snd.snd.snd.fst) (Tr.zeroEl Y4) then
                                    Option.bind (F35 (3 : Int) s1.snd.snd.snd.snd (6 : Int)) fun x23 => Option.some (Sum.inr (Sum.inr x23))
                                  else
                                    bif x2.snd.snd.snd.snd.fst then
                                      Option.some
                                        (Sum.inl
                                          (s1.fst, Tr.amSet (Tr.keyEq Y3) x2.fst x2.snd.snd.fst s1.snd.fst, Tr.amSet (Tr.keyEq Y3) x2.snd.snd.fst Bool.true s1.snd.snd.fst,
                                            Tr.amSet (Tr.keyEq Y54) [x2.fst, x2.snd.fst, x2.snd.snd.fst, x2.snd.snd.snd.fst] Bool.true s1.snd.snd.snd.fst,
                                            Go.IntKind.wrap Go.IntKind.i64 (s1.snd.snd.snd.snd + (1 : Int))))
                                    else
                                      Option.some
                                        (Sum.inl
                                          (s1.fst, s1.snd.fst, s1.snd.snd.fst, Tr.amSet (Tr.keyEq Y54) [x2.fst, x2.snd.fst, x2.snd.snd.fst, x2.snd.snd.snd.fst] Bool.true s1.snd.snd.snd.fst,
                                            Go.IntKind.wrap Go.IntKind.i64 (s1.snd.snd.snd.snd + (1 : Int))))
          else Option.some (Sum.inr (Sum.inl s1.fst)))
        (Tr.zeroEl Y73, [], [], [], (0 : Int)))
      fun x24 => Sum.elim (fun y25 => Option.some (Tr.zeroEl Y3, Tr.zeroEl Y3, Tr.zeroEl Y42, ())) (fun y26 => Option.some y26) x24
abbrev F37A : Pats := (.cons (.pd Y40) .nil)
abbrev F37R : Pats := (.cons (.pd Y73) .nil)
noncomputable def F37S : Tr.Spec := { args := F37A, res := F37R, fns := [], α := El Y73, f := fun x => F37 x.1, unp := fun z => (((), ()), (z, ())) }
noncomputable def F37E : Env := { ty := fun n => tyTab.lookup n, mty := fun n => mapTab.lookup n, pk := fun n => (pkTab.lookup n).getD 0, rw := fun n => [].contains n, specs := fun n => (([(35, [F35S]), (50, [F50S]), (51, [F51S])] : List (Nat × List Tr.Spec)).lookup n).getD [], nt := 171, ks := [] }
noncomputable def F37B : Code := match Try.f37.body with | some b => b | none => .skip
def F37H : Hint := (.seq .leaf (.seq .leaf (.seq .leaf (.seq .leaf (.seq (.seq .leaf (.lp ⟨[(2, (.var Y73 (.pd Y73))), (3, (.map Y3 Y3)), (4, (.map Y3 Y4)), (5, (.map Y54 Y4)), (24, (.pd Y3))], [], [1, 22, 23]⟩ [((.exit 0), ⟨[(2, (.var Y73 (.pd Y73)))], [], []⟩), (.ret, ⟨[(2, (.var Y73 (.pd Y73)))], [], []⟩)] (.seq .leaf (.seq .leaf (.seq (.seq .leaf (.seq (.seq (.reg [(51, Y4)]) .leaf) (.seq .leaf (.seq (.seq (.reg [(81, Y4)]) .leaf) .leaf)))) .leaf))))) .leaf)))))
noncomputable def F37V (a0 : El Y40) : Option (El Y73) := evalF F37E F37B Try.f37.results F37H F37A F37R (fun y => y.2.1) (a0, ())
theorem F37_eq (a0 : El Y40) : F37V a0 = F37 a0 := by kernel_rfl
theorem F37_ok : FnOK Try.prog 37 F37S := evalF_ok (E := F37E) (fn := Try.f37) (body := F37B) (hint := F37H) (pack := fun y => y.2.1) hmix (typesOk_of tab_ok rfl rfl rfl) (specsOk_of (m := [(35, [F35S]), (50, [F50S]), (51, [F51S])]) ⟨⟨F35_ok, trivial⟩, ⟨F50_ok, trivial⟩, ⟨F51_ok, trivial⟩, trivial⟩ rfl) (by kernel_rfl) (by kernel_rfl) (by kernel_rfl) (by kernel_rfl) (by kernel_rfl) (by kernel_rfl) (fun y => rfl)
  (fun x z h => (F37_eq x.1).trans h)
noncomputable def F52 : (El Y3) → (El Y3) → (El Y3) → Option (El Y4) := fun a0 a1 a2 => Option.bind (bif Decidable.decide (a1 ≤ a0) then Option.some (Decidable.decide (a0 ≤ a2)) else Option.some Bool.false) fun x0 => Option.some x0
abbrev F52A : Pats := (.cons (.pd Y3) (.cons (.pd Y3) (.cons (.pd Y3) .nil)))
abbrev F52R : Pats := (.cons (.pd Y4) .nil)
noncomputable def F52S : Tr.Spec := { args := F52A, res := F52R, fns := [], α := El Y4, f := fun x => F52 x.1 x.2.1 x.2.2.1, unp := fun z => (((), (), (), ()), (z, ())) }
noncomputable def F52E : Env := { ty := fun n => tyTab.lookup n, mty := fun n => mapTab.lookup n, pk := fun n => (pkTab.lookup n).getD 0, rw := fun n => [].contains n, specs := fun n => (([] : List (Nat × List Tr.Spec)).lookup n).getD [], nt := 15, ks := [] }
noncomputable def F52B : Code := match Try.f52.body with | some b => b | none => .skip
def F52H : Hint := (.seq .leaf (.seq (.reg [(6, Y4)]) .leaf))
noncomputable def F52V (a0 : El Y3) (a1 : El Y3) (a2 : El Y3) : Option (El Y4) := evalF F52E F52B Try.f52.results F52H F52A F52R (fun y => y.2.1) (a0, a1, a2, ())
theorem F52_eq (a0 : El Y3) (a1 : El Y3) (a2 : El Y3) : F52V a0 a1 a2 = F52 a0 a1 a2 := by kernel_rfl
theorem F52_ok : FnOK Try.prog 52 F52S := evalF_ok (E := F52E) (fn := Try.f52) (body := F52B) (hint := F52H) (pack := fun y => y.2.1) hmix (typesOk_of tab_ok rfl rfl rfl) (specsOk_of (m := []) trivial rfl) (by kernel_rfl) (by kernel_rfl) (by kernel_rfl) (by kernel_rfl) (by kernel_rfl) (by kernel_rfl) (fun y => rfl)
  (fun x z h => (F52_eq x.1 x.2.1 x.2.2.1).trans h)
noncomputable def F38 : (El Y38) → Option (El Y3 × El Y42) := fun a0 =>
  Option.bind
    (Option.bind (F52 a0.snd.fst (0 : Int) (1000000 : Int)) fun x0 =>
      bif !x0 then Option.some Bool.true
      else
        Option.bind (F52 a0.snd.snd.fst (0 : Int) (86400 : Int)) fun x1 =>
          bif !x1 then Option.some Bool.true else Option.bind (F52 a0.snd.snd.snd.fst (0 : Int) (1000000 : Int)) fun x2 => Option.some !x2)
    fun x3 =>
    bif x3 then Option.some ((-1 : Int), (2 : Int))
    else
      bif Decidable.decide ((16 : Int) < (↑(List.length a0.fst) : Int)) then Option.some ((0 : Int), (5 : Int))
      else
        Option.bind
          (Tr.run
            (fun s4 =>
              bif Decidable.decide (s4.snd < (↑(List.length a0.fst) : Int)) then
                Option.bind (Tr.idx a0.fst s4.snd) fun x5 =>
                  Option.bind (F47 x5.fst) fun x6 =>
                    bif !x6 then Option.some (Sum.inr (Sum.inr (s4.snd, (12 : Int))))
                    else
                      bif Option.getD (Tr.amGet (Tr.keyEq Y9) x5.fst s4.fst) (Tr.zeroEl Y4) then Option.some (Sum.inr (Sum.inr (s4.snd, (6 : Int))))
                      else
                        Option.bind
                          (Option.bind (F52 x5.snd.fst (0 : Int) (1000000 : Int)) fun x7 =>
                            bif !x7 then Option.some Bool.true
                            else
                              Option.bind (F52 x5.snd.snd.fst (1 : Int) (8 : Int)) fun x8 =>
                                bif !x8 then Option.some Bool.true
                                else
                                  Option.bind (F52 x5.snd.snd.snd.fst (1 : Int) (16 : Int)) fun x9 =>
                                    bif !x9 then Option.some Bool.true
                                    else
                                      Option.bind (F52 x5.snd.snd.snd.snd.fst (0 : Int) (86400 : Int)) fun x10 =>
                                        bif !x10 then Option.some Bool.true else Option.bind (F52 x5.snd.snd.snd.snd.snd.fst (1 : Int) (255 : Int)) fun x11 => Option.some !x11)
                          fun x12 =>
                          bif x12 then Option.some (Sum.inr (Sum.inr (s4.snd, (2 : Int))))
                          else Option.some (Sum.inl (Tr.amSet (Tr.keyEq Y9) x5.fst Bool.true s4.fst, Go.IntKind.wrap Go.IntKind.i64 (s4.snd + (1 : Int))))
              else Option.some (Sum.inr (Sum.inl ())))
            ([], (0 : Int)))
          fun x13 => Sum.elim (fun y14 => Option.some ((0 : Int), (0 : Int))) (fun y15 => Option.some (y15.fst, y15.snd)) x13
abbrev F38A : Pats := (.cons (.pd Y38) .nil)
abbrev F38R : Pats := (.cons (.pd Y3) (.cons (.pd Y42) .nil))
noncomputable def F38S : Tr.Spec := { args := F38A, res := F38R, fns := [], α := El Y3 × El Y42, f := fun x => F38 x.1, unp := fun z => (((), ()), (z.1, z.2, ())) }
noncomputable def F38E : Env := { ty := fun n => tyTab.lookup n, mty := fun n => mapTab.lookup n, pk := fun n => (pkTab.lookup n).getD 0, rw := fun n => [].contains n, specs := fun n => (([(47, [F47S]), (52, [F52S])] : List (Nat × List Tr.Spec)).lookup n).getD [], nt := 79, ks := [] }
noncomputable def F38B : Code := match Try.f38.body with | some b => b | none => .skip
def F38H : Hint := (.seq .leaf (.seq (.seq (.reg [(22, Y4)]) .leaf) (.seq .leaf (.seq .leaf (.seq (.seq .leaf (.lp ⟨[(4, (.map Y9 Y4)), (31, (.pd Y3))], [], [29, 30]⟩ [((.exit 0), ⟨[], [], []⟩), (.ret, ⟨[(2, (.pd Y3)), (3, (.pd Y42))], [], []⟩)] (.seq .leaf (.seq .leaf (.seq (.seq .leaf (.seq .leaf (.seq .leaf (.seq (.seq (.reg [(73, Y4)]) .leaf) .leaf)))) .leaf))))) .leaf)))))
noncomputable def F38V (a0 : El Y38) : Option (El Y3 × El Y42) := evalF F38E F38B Try.f38.results F38H F38A F38R (fun y => (y.2.1, y.2.2.1)) (a0, ())
theorem F38_eq (a0 : El Y38) : F38V a0 = F38 a0 := by kernel_rfl
theorem F38_ok : FnOK Try.prog 38 F38S := evalF_ok (E := F38E) (fn := Try.f38) (body := F38B) (hint := F38H) (pack := fun y => (y.2.1, y.2.2.1)) hmix (typesOk_of tab_ok rfl rfl rfl) (specsOk_of (m := [(47, [F47S]), (52, [F52S])]) ⟨⟨F47_ok, trivial⟩, ⟨F52_ok, trivial⟩, trivial⟩ rfl) (by kernel_rfl) (by kernel_rfl) (by kernel_rfl) (by kernel_rfl) (by kernel_rfl) (by kernel_rfl) (fun y => rfl)
  (fun x z h => (F38_eq x.1).trans h)
noncomputable def F66 : (El Y35) → (El Y3) → Option (El Y3 × El Y42) := fun a0 a1 =>
  Option.bind
    (Tr.run
      (fun s0 =>
        bif Decidable.decide (s0.snd < (↑(List.length a0) : Int)) then
          Option.bind (Tr.idx a0 s0.snd) fun x1 =>
            Option.bind
              (bif Decidable.decide (x1.fst < (0 : Int)) then Option.some (Decidable.decide (x1.fst < (0 : Int)))
              else
                Option.bind
                  (bif Decidable.decide (a1 ≤ x1.fst) then Option.some (Decidable.decide (a1 ≤ x1.fst))
                  else
                    Option.bind
                      (bif Decidable.decide (x1.snd.fst < (0 : Int)) then Option.some (Decidable.decide (x1.snd.fst < (0 : Int)))
                      else
                        Option.bind (bif Decidable.decide (a1 ≤ x1.snd.fst) then Option.some (Decidable.decide (a1 ≤ x1.snd.fst)) else Option.some (Decidable.decide (x1.fst = x1.snd.fst))) fun x2 =>
                          Option.some x2)
                      fun x3 => Option.some x3)
                  fun x4 => Option.some x4)
              fun x5 =>
              bif x5 then Option.some (Sum.inr (Sum.inr (s0.snd, (9 : Int))))
              else
                Option.bind
                  (bif Decidable.decide (x1.snd.snd.fst < (1 : Int)) then Option.some (Decidable.decide (x1.snd.snd.fst < (1 : Int)))
                  else Option.some (Decidable.decide ((14400 : Int) < x1.snd.snd.fst)))
                  fun x6 =>
                  bif x6 then Option.some (Sum.inr (Sum.inr (s0.snd, (2 : Int))))
                  else
                    bif Option.getD (Tr.amGet (Tr.keyEq Y128) (x1.fst, x1.snd.fst, x1.snd.snd.snd.fst, ()) s0.fst) (Tr.zeroEl Y4) then Option.some (Sum.inr (Sum.inr (s0.snd, (6 : Int))))
                    else Option.some (Sum.inl (Tr.amSet (Tr.keyEq Y128) (x1.fst, x1.snd.fst, x1.snd.snd.snd.fst, ()) Bool.true s0.fst, Go.IntKind.wrap Go.IntKind.i64 (s0.snd + (1 : Int))))
        else Option.some (Sum.inr (Sum.inl ())))
      ([], (0 : Int)))
    fun x7 => Sum.elim (fun y8 => Option.some ((0 : Int), (0 : Int))) (fun y9 => Option.some (y9.fst, y9.snd)) x7
abbrev F66A : Pats := (.cons (.pd Y35) (.cons (.pd Y3) .nil))
abbrev F66R : Pats := (.cons (.pd Y3) (.cons (.pd Y42) .nil))
noncomputable def F66S : Tr.Spec := { args := F66A, res := F66R, fns := [], α := El Y3 × El Y42, f := fun x => F66 x.1 x.2.1, unp := fun z => (((), (), ()), (z.1, z.2, ())) }
noncomputable def F66E : Env := { ty := fun n => tyTab.lookup n, mty := fun n => mapTab.lookup n, pk := fun n => (pkTab.lookup n).getD 0, rw := fun n => [].contains n, specs := fun n => (([] : List (Nat × List Tr.Spec)).lookup n).getD [], nt := 62, ks := [] }
noncomputable def F66B : Code := match Try.f66.body with | some b => b | none => .skip
def F66H : Hint := (.seq .leaf (.seq .leaf (.seq (.seq .leaf (.lp ⟨[(6, (.map Y128 Y4)), (13, (.pd Y3))], [], [1, 11, 12]⟩ [((.exit 0), ⟨[], [], []⟩), (.ret, ⟨[(4, (.pd Y3)), (5, (.pd Y42))], [], []⟩)] (.seq .leaf (.seq .leaf (.seq (.seq .leaf (.seq .leaf (.seq (.seq (.seq .leaf (.cnd (some (⟨[], [], [1, 6, 7, 8, 9, 11, 12, 13]⟩, [(.normal, ⟨[(25, (.pd Y4))], [], [1, 6, 7, 8, 9, 11, 12, 13]⟩)])) .leaf (.seq .leaf (.cnd (some (⟨[], [], [1, 6, 7, 8, 9, 11, 12, 13]⟩, [(.normal, ⟨[(25, (.pd Y4))], [], [1, 6, 7, 8, 9, 11, 12, 13]⟩)])) .leaf (.seq .leaf (.cnd (some (⟨[], [], [1, 6, 7, 8, 9, 11, 12, 13]⟩, [(.normal, ⟨[(25, (.pd Y4))], [], [1, 6, 7, 8, 9, 11, 12, 13]⟩)])) .leaf (.seq .leaf (.cnd (some (⟨[], [], [1, 6, 7, 8, 9, 11, 12, 13]⟩, [(.normal, ⟨[(25, (.pd Y4))], [], [1, 6, 7, 8, 9, 11, 12, 13]⟩)])) .leaf .leaf)))))))) (.cnd none .leaf (.seq (.seq .leaf (.cnd (some (⟨[], [], [1, 6, 7, 9, 11, 12, 13]⟩, [(.normal, ⟨[(46, (.pd Y4))], [], [1, 6, 7, 9, 11, 12, 13]⟩)])) .leaf .leaf)) .leaf))) .leaf))) .leaf))))) .leaf)))
noncomputable def F66V (a0 : El Y35) (a1 : El Y3) : Option (El Y3 × El Y42) := evalF F66E F66B Try.f66.results F66H F66A F66R (fun y => (y.2.1, y.2.2.1)) (a0, a1, ())
theorem F66_eq (a0 : El Y35) (a1 : El Y3) : F66V a0 a1 = F66 a0 a1 := by kernel_rfl
theorem F66_ok : FnOK Try.prog 66 F66S := evalF_ok (E := F66E) (fn := Try.f66) (body := F66B) (hint := F66H) (pack := fun y => (y.2.1, y.2.2.1)) hmix (typesOk_of tab_ok rfl rfl rfl) (specsOk_of (m := []) trivial rfl) (by kernel_rfl) (by kernel_rfl) (by kernel_rfl) (by kernel_rfl) (by kernel_rfl) (by kernel_rfl) (fun y => rfl)
  (fun x z h => (F66_eq x.1 x.2.1).trans h)
noncomputable def F95 : (El Y3) → (El Y3) → Option (El Y4) := fun a0 a1 => Option.bind (bif Decidable.decide (a0 < (0 : Int)) then Option.some Bool.true else Option.some (Decidable.decide (a1 ≤ a0))) fun x0 => Option.some x0
abbrev F95A : Pats := (.cons (.pd Y3) (.cons (.ro Y3) .nil))
abbrev F95R : Pats := (.cons (.pd Y4) .nil)
noncomputable def F95S : Tr.Spec := { args := F95A, res := F95R, fns := [], α := El Y4, f := fun x => F95 x.1 x.2.1, unp := fun z => (((), (), ()), (z, ())) }
noncomputable def F95E : Env := { ty := fun n => tyTab.lookup n, mty := fun n => mapTab.lookup n, pk := fun n => (pkTab.lookup n).getD 0, rw := fun n => [].contains n, specs := fun n => (([] : List (Nat × List Tr.Spec)).lookup n).getD [], nt := 11, ks := [] }
noncomputable def F95B : Code := match Try.f95.body with | some b => b | none => .skip
def F95H : Hint := (.seq .leaf (.seq (.reg [(3, Y4)]) .leaf))
noncomputable def F95V (a0 : El Y3) (a1 : El Y3) : Option (El Y4) := evalF F95E F95B Try.f95.results F95H F95A F95R (fun y => y.2.1) (a0, a1, ())
theorem F95_eq (a0 : El Y3) (a1 : El Y3) : F95V a0 a1 = F95 a0 a1 := by kernel_rfl
theorem F95_ok : FnOK Try.prog 95 F95S := evalF_ok (E := F95E) (fn := Try.f95) (body := F95B) (hint := F95H) (pack := fun y => y.2.1) hmix (typesOk_of tab_ok rfl rfl rfl) (specsOk_of (m := []) trivial rfl) (by kernel_rfl) (by kernel_rfl) (by kernel_rfl) (by kernel_rfl) (by kernel_rfl) (by kernel_rfl) (fun y => rfl)
  (fun x z h => (F95_eq x.1 x.2.1).trans h)
noncomputable def F83 : (El Y3) → (El Y138) → (El Y45) → Option (El Y42) := fun a0 a1 a2 =>
  Option.bind (bif Decidable.decide (a0 < (0 : Int)) then Option.some Bool.true else Option.some (Decidable.decide ((64 : Int) < a0))) fun x0 =>
    bif x0 then Option.some (2 : Int)
    else
      bif Decidable.decide ((4096 : Int) < (↑(List.length a1) : Int)) then Option.some (5 : Int)
      else
        Option.bind
          (Tr.run
            (fun s1 =>
              bif Decidable.decide (s1 < (↑(List.length a1) : Int)) then
                Option.bind (Tr.idx a1 s1) fun x2 =>
                  Option.bind (F95 x2.fst a0) fun x3 =>
                    bif x3 then Option.some (Sum.inr (Sum.inr (9 : Int)))
                    else
                      Option.bind (F95 x2.snd.fst a0) fun x4 =>
                        bif x4 then Option.some (Sum.inr (Sum.inr (9 : Int)))
                        else
                          Option.bind (bif Decidable.decide (x2.snd.snd.fst < (0 : Int)) then Option.some Bool.true else Option.some (Decidable.decide ((1073741824 : Int) < x2.snd.snd.fst))) fun x5 =>
                            bif x5 then Option.some (Sum.inr (Sum.inr (2 : Int))) else Option.some (Sum.inl (Go.IntKind.wrap Go.IntKind.i64 (s1 + (1 : Int))))
              else Option.some (Sum.inr (Sum.inl ())))
            (0 : Int))
          fun x6 =>
          Sum.elim
            (fun y7 =>
              Option.bind
                (Tr.run
                  (fun s8 =>
                    bif Decidable.decide (s8 < (↑(List.length a2) : Int)) then
                      Option.bind (Tr.idx a2 s8) fun x9 =>
                        Option.bind (F95 x9 a0) fun x10 => bif x10 then Option.some (Sum.inr (Sum.inr (9 : Int))) else Option.some (Sum.inl (Go.IntKind.wrap Go.IntKind.i64 (s8 + (1 : Int))))
                    else Option.some (Sum.inr (Sum.inl ())))
                  (0 : Int))
                fun x11 => Sum.elim (fun y12 => Option.some (0 : Int)) (fun y13 => Option.some y13) x11)
            (fun y14 => Option.some y14) x6
abbrev F83A : Pats := (.cons (.pd Y3) (.cons (.pd Y138) (.cons (.pd Y45) .nil)))
abbrev F83R : Pats := (.cons (.pd Y42) .nil)
noncomputable def F83S : Tr.Spec := { args := F83A, res := F83R, fns := [], α := El Y42, f := fun x => F83 x.1 x.2.1 x.2.2.1, unp := fun z => (((), (), (), ()), (z, ())) }
noncomputable def F83E : Env := { ty := fun n => tyTab.lookup n, mty := fun n => mapTab.lookup n, pk := fun n => (pkTab.lookup n).getD 0, rw := fun n => [].contains n, specs := fun n => (([(95, [F95S])] : List (Nat × List Tr.Spec)).lookup n).getD [], nt := 57, ks := [] }
noncomputable def F83B : Code := match Try.f83.body with | some b => b | none => .skip
def F83H : Hint := (.seq .leaf (.seq (.seq (.reg [(17, Y4)]) .leaf) (.seq .leaf (.seq .leaf (.seq (.seq .leaf (.lp ⟨[(24, (.pd Y3))], [], [2, 7, 22, 23]⟩ [((.exit 0), ⟨[], [], [2, 7]⟩), (.ret, ⟨[(6, (.pd Y42))], [], []⟩)] (.seq .leaf (.seq .leaf (.seq (.seq .leaf (.seq .leaf (.seq (.reg [(45, Y4)]) .leaf))) .leaf))))) (.seq (.seq .leaf (.lp ⟨[(49, (.pd Y3))], [], [7, 47, 48]⟩ [((.exit 2), ⟨[], [], []⟩), (.ret, ⟨[(6, (.pd Y42))], [], []⟩)] .leaf)) .leaf))))))
noncomputable def F83V (a0 : El Y3) (a1 : El Y138) (a2 : El Y45) : Option (El Y42) := evalF F83E F83B Try.f83.results F83H F83A F83R (fun y => y.2.1) (a0, a1, a2, ())
theorem F83_eq (a0 : El Y3) (a1 : El Y138) (a2 : El Y45) : F83V a0 a1 a2 = F83 a0 a1 a2 := by kernel_rfl
theorem F83_ok : FnOK Try.prog 83 F83S := evalF_ok (E := F83E) (fn := Try.f83) (body := F83B) (hint := F83H) (pack := fun y => y.2.1) hmix (typesOk_of tab_ok rfl rfl rfl) (specsOk_of (m := [(95, [F95S])]) ⟨⟨F95_ok, trivial⟩, trivial⟩ rfl) (by kernel_rfl) (by kernel_rfl) (by kernel_rfl) (by kernel_rfl) (by kernel_rfl) (by kernel_rfl) (fun y => rfl)
  (fun x z h => (F83_eq x.1 x.2.1 x.2.2.1).trans h)
noncomputable def F84 : (El Y138) → (El Y4) → Option (List (El Y3 × List (El Y140))) := fun a0 a1 =>
  Option.bind
    (Tr.run
      (fun s0 =>
        bif Decidable.decide (s0.snd < (↑(List.length a0) : Int)) then
          Option.bind (Tr.idx a0 s0.snd) fun x1 =>
            Option.bind (bif a1 then Option.some (x1.snd.fst, x1.fst, x1.snd.snd) else Option.some x1) fun x2 =>
              Option.bind (Tr.guardB (Decidable.decide (List.length (Option.getD (Tr.amGet (Tr.keyEq Y3) x2.fst s0.fst) []) + List.length [x2] ≤ Tr.maxApp))) fun x3 =>
                Option.bind (Tr.guardB (Tr.holeK Y3 (Option.some x2.fst) x2.fst)) fun x4 =>
                  Option.some (Sum.inl (Tr.amSet (Tr.keyEq Y3) x2.fst (Option.getD (Tr.amGet (Tr.keyEq Y3) x2.fst s0.fst) [] ++ [x2]) s0.fst, Go.IntKind.wrap Go.IntKind.i64 (s0.snd + (1 : Int))))
        else Option.some (Sum.inr s0.fst))
      ([], (0 : Int)))
    fun x5 => Option.some x5
abbrev F84A : Pats := (.cons (.pd Y138) (.cons (.pd Y4) .nil))
abbrev F84R : Pats := (.cons (.mrows Y3 Y140) .nil)
noncomputable def F84S : Tr.Spec := { args := F84A, res := F84R, fns := [], α := List (El Y3 × List (El Y140)), f := fun x => F84 x.1 x.2.1, unp := fun z => (((), (), ()), (z, ())) }
noncomputable def F84E : Env := { ty := fun n => tyTab.lookup n, mty := fun n => mapTab.lookup n, pk := fun n => (pkTab.lookup n).getD 0, rw := fun n => [145].contains n, specs := fun n => (([] : List (Nat × List Tr.Spec)).lookup n).getD [], nt := 34, ks := [] }
noncomputable def F84B : Code := match Try.f84.body with | some b => b | none => .skip
def F84H : Hint := (.seq .leaf (.seq .leaf (.seq (.seq .leaf (.lp ⟨[(5, (.mrows Y3 Y140)), (11, (.pd Y3))], [], [1, 9, 10]⟩ [((.exit 0), ⟨[(5, (.mrows Y3 Y140))], [], []⟩)] (.seq .leaf (.seq .leaf (.seq (.seq .leaf (.seq (.seq .leaf (.cnd (some (⟨[], [], [1, 5, 9, 10, 11]⟩, [(.normal, ⟨[(7, (.var Y140 (.pd Y140)))], [], [1, 5, 9, 10, 11]⟩)])) .leaf .leaf)) .leaf)) .leaf))))) .leaf)))
noncomputable def F84V (a0 : El Y138) (a1 : El Y4) : Option (List (El Y3 × List (El Y140))) := evalF F84E F84B Try.f84.results F84H F84A F84R (fun y => y.2.1) (a0, a1, ())
theorem F84_eq (a0 : El Y138) (a1 : El Y4) : F84V a0 a1 = F84 a0 a1 := by kernel_rfl
theorem F84_ok : FnOK Try.prog 84 F84S := evalF_ok (E := F84E) (fn := Try.f84) (body := F84B) (hint := F84H) (pack := fun y => y.2.1) hmix (typesOk_of tab_ok rfl rfl rfl) (specsOk_of (m := []) trivial rfl) (by kernel_rfl) (by kernel_rfl) (by kernel_rfl) (by kernel_rfl) (by kernel_rfl) (by kernel_rfl) (fun y => rfl)
  (fun x z h => (F84_eq x.1 x.2.1).trans h)
noncomputable def F85 : (El Y148) → Option (El Y45) := fun a0 =>
  Option.bind
    (Tr.guardB
      (Decidable.decide
        ((0 : Tr.El (Tr.Ty.int Go.IntKind.i64)) ≤ (↑(List.length a0) : Int) ∧
          (↑(List.length a0) : Int) ≤ (↑(List.length a0) : Int) ∧ (↑(List.length a0) : Int) ≤ (↑Tr.maxApp : Tr.El (Tr.Ty.int Go.IntKind.i64)))))
    fun x0 =>
    Option.bind
      (Tr.run
        (fun s1 =>
          bif Decidable.decide (s1.snd < (↑(List.length a0) : Int)) then
            Option.bind (Tr.idx a0 s1.snd) fun x2 =>
              Option.bind (Tr.inb s1.snd (List.length s1.fst)) fun x3 =>
                Option.bind s1.fst[x3]? fun x4 => Option.some (Sum.inl (List.set s1.fst x3 x2.snd.fst, Go.IntKind.wrap Go.IntKind.i64 (s1.snd + (1 : Int))))
          else Option.some (Sum.inr s1.fst))
        (List.replicate (Int.toNat (↑(List.length a0) : Int)) (Tr.zeroEl Y3), (0 : Int)))
      fun x5 => Option.some x5
abbrev F85A : Pats := (.cons (.pd Y148) .nil)
abbrev F85R : Pats := (.cons (.pd Y45) .nil)
noncomputable def F85S : Tr.Spec := { args := F85A, res := F85R, fns := [], α := El Y45, f := fun x => F85 x.1, unp := fun z => (((), ()), (z, ())) }
noncomputable def F85E : Env := { ty := fun n => tyTab.lookup n, mty := fun n => mapTab.lookup n, pk := fun n => (pkTab.lookup n).getD 0, rw := fun n => [].contains n, specs := fun n => (([] : List (Nat × List Tr.Spec)).lookup n).getD [], nt := 23, ks := [] }
noncomputable def F85B : Code := match Try.f85.body with | some b => b | none => .skip
def F85H : Hint := (.seq .leaf (.seq .leaf (.seq (.seq .leaf (.lp ⟨[(3, (.own Y3 false)), (11, (.pd Y3))], [], [9, 10]⟩ [((.exit 0), ⟨[(3, (.own Y3 false))], [], []⟩)] .leaf)) .leaf)))
noncomputable def F85V (a0 : El Y148) : Option (El Y45) := evalF F85E F85B Try.f85.results F85H F85A F85R (fun y => y.2.1) (a0, ())
theorem F85_eq (a0 : El Y148) : F85V a0 = F85 a0 := by kernel_rfl
theorem F85_ok : FnOK Try.prog 85 F85S := evalF_ok (E := F85E) (fn := Try.f85) (body := F85B) (hint := F85H) (pack := fun y => y.2.1) hmix (typesOk_of tab_ok rfl rfl rfl) (specsOk_of (m := []) trivial rfl) (by kernel_rfl) (by kernel_rfl) (by kernel_rfl) (by kernel_rfl) (by kernel_rfl) (by kernel_rfl) (fun y => rfl)
  (fun x z h => (F85_eq x.1).trans h)
noncomputable def F97 : (El Y156) → (El Y156) → Option (El Y4) := fun a0 a1 =>
  Option.bind
    (bif Decidable.decide (a0.snd.fst < a1.snd.fst) then Option.some Bool.true
    else bif Decidable.decide (a0.snd.fst = a1.snd.fst) then Option.some (Decidable.decide (a0.snd.snd.fst < a1.snd.snd.fst)) else Option.some Bool.false)
    fun x0 => Option.some x0
abbrev F97A : Pats := (.cons (.pd Y156) (.cons (.pd Y156) .nil))
abbrev F97R : Pats := (.cons (.pd Y4) .nil)
noncomputable def F97S : Tr.Spec := { args := F97A, res := F97R, fns := [], α := El Y4, f := fun x => F97 x.1 x.2.1, unp := fun z => (((), (), ()), (z, ())) }
noncomputable def F97E : Env := { ty := fun n => tyTab.lookup n, mty := fun n => mapTab.lookup n, pk := fun n => (pkTab.lookup n).getD 0, rw := fun n => [].contains n, specs := fun n => (([] : List (Nat × List Tr.Spec)).lookup n).getD [], nt := 24, ks := [] }
noncomputable def F97B : Code := match Try.f97.body with | some b => b | none => .skip
def F97H : Hint := (.seq .leaf (.seq (.reg [(4, Y4)]) .leaf))
noncomputable def F97V (a0 : El Y156) (a1 : El Y156) : Option (El Y4) := evalF F97E F97B Try.f97.results F97H F97A F97R (fun y => y.2.1) (a0, a1, ())
theorem F97_eq (a0 : El Y156) (a1 : El Y156) : F97V a0 a1 = F97 a0 a1 := by kernel_rfl
theorem F97_ok : FnOK Try.prog 97 F97S := evalF_ok (E := F97E) (fn := Try.f97) (body := F97B) (hint := F97H) (pack := fun y => y.2.1) hmix (typesOk_of tab_ok rfl rfl rfl) (specsOk_of (m := []) trivial rfl) (by kernel_rfl) (by kernel_rfl) (by kernel_rfl) (by kernel_rfl) (by kernel_rfl) (by kernel_rfl) (fun y => rfl)
  (fun x z h => (F97_eq x.1 x.2.1).trans h)
noncomputable def F103 : ((Unit × List (El Y169) × El Y3 × Unit)) → (El Y3) → (El Y3) → Option ((Unit × List (El Y169) × El Y3 × Unit) × El Y4) := fun a0 a1 a2 =>
  Option.bind (Tr.inb a1 (List.length a0.snd.fst)) fun x0 =>
    Option.bind a0.snd.fst[x0]? fun x1 =>
      Option.bind (Tr.inb a2 (List.length a0.snd.fst)) fun x2 =>
        Option.bind a0.snd.fst[x2]? fun x3 =>
          Option.bind (F97 x1.fst x3.fst) fun x4 =>
            bif x4 then Option.some (((), a0.snd.fst, a0.snd.snd.fst, ()), Bool.true)
            else
              Option.bind (F97 x3.fst x1.fst) fun x5 =>
                bif x5 then Option.some (((), a0.snd.fst, a0.snd.snd.fst, ()), Bool.false) else Option.some (((), a0.snd.fst, a0.snd.snd.fst, ()), Decidable.decide (x1.snd.fst < x3.snd.fst))
abbrev F103A : Pats := (.cons (.var Y167 (.agg (.cons (.fn 97 .nil) (.cons (.own Y169 true) (.cons (.pd Y3) .nil))))) (.cons (.pd Y3) (.cons (.pd Y3) .nil)))
abbrev F103R : Pats := (.cons (.pd Y4) .nil)
noncomputable def F103S : Tr.Spec := { args := F103A, res := F103R, fns := [], α := (Unit × List (El Y169) × El Y3 × Unit) × El Y4, f := fun x => F103 x.1 x.2.1 x.2.2.1, unp := fun z => ((z.1, (), (), ()), (z.2, ())) }
noncomputable def F103E : Env := { ty := fun n => tyTab.lookup n, mty := fun n => mapTab.lookup n, pk := fun n => (pkTab.lookup n).getD 0, rw := fun n => [].contains n, specs := fun n => (([(97, [F97S])] : List (Nat × List Tr.Spec)).lookup n).getD [], nt := 46, ks := [] }
noncomputable def F103B : Code := match Try.f103.body with | some b => b | none => .skip
def F103H : Hint := .leaf
noncomputable def F103V (a0 : (Unit × List (El Y169) × El Y3 × Unit)) (a1 : El Y3) (a2 : El Y3) : Option ((Unit × List (El Y169) × El Y3 × Unit) × El Y4) := evalF F103E F103B Try.f103.results F103H F103A F103R (fun y => (y.1.1, y.2.1)) (a0, a1, a2, ())
theorem F103_eq (a0 : (Unit × List (El Y169) × El Y3 × Unit)) (a1 : El Y3) (a2 : El Y3) : F103V a0 a1 a2 = F103 a0 a1 a2 := by kernel_rfl
theorem F103_ok : FnOK Try.prog 103 F103S := evalF_ok (E := F103E) (fn := Try.f103) (body := F103B) (hint := F103H) (pack := fun y => (y.1.1, y.2.1)) hmix (typesOk_of tab_ok rfl rfl rfl) (specsOk_of (m := [(97, [F97S])]) ⟨⟨F97_ok, trivial⟩, trivial⟩ rfl) (by kernel_rfl) (by kernel_rfl) (by kernel_rfl) (by kernel_rfl) (by kernel_rfl) (by kernel_rfl) (fun y => rfl)
  (fun x z h => (F103_eq x.1 x.2.1 x.2.2.1).trans h)
noncomputable def F104 : ((Unit × List (El Y169) × El Y3 × Unit)) → (El Y3) → (El Y3) → Option ((Unit × List (El Y169) × El Y3 × Unit)) := fun a0 a1 a2 =>
  Option.bind (Tr.inb a2 (List.length a0.snd.fst)) fun x0 =>
    Option.bind a0.snd.fst[x0]? fun x1 =>
      Option.bind (Tr.inb a1 (List.length a0.snd.fst)) fun x2 =>
        Option.bind a0.snd.fst[x2]? fun x3 =>
          Option.bind (Tr.inb a1 (List.length a0.snd.fst)) fun x4 =>
            Option.bind a0.snd.fst[x4]? fun x5 =>
              Option.bind (Tr.inb a2 (List.length (List.set a0.snd.fst x4 x1))) fun x6 =>
                Option.bind (List.set a0.snd.fst x4 x1)[x6]? fun x7 => Option.some ((), List.set (List.set a0.snd.fst x4 x1) x6 x3, a0.snd.snd.fst, ())
abbrev F104A : Pats := (.cons (.var Y167 (.agg (.cons (.fn 97 .nil) (.cons (.own Y169 true) (.cons (.pd Y3) .nil))))) (.cons (.pd Y3) (.cons (.pd Y3) .nil)))
abbrev F104R : Pats := .nil
noncomputable def F104S : Tr.Spec := { args := F104A, res := F104R, fns := [], α := (Unit × List (El Y169) × El Y3 × Unit), f := fun x => F104 x.1 x.2.1 x.2.2.1, unp := fun z => ((z, (), (), ()), ()) }
noncomputable def F104E : Env := { ty := fun n => tyTab.lookup n, mty := fun n => mapTab.lookup n, pk := fun n => (pkTab.lookup n).getD 0, rw := fun n => [].contains n, specs := fun n => (([(97, [F97S])] : List (Nat × List Tr.Spec)).lookup n).getD [], nt := 32, ks := [] }
noncomputable def F104B : Code := match Try.f104.body with | some b => b | none => .skip
def F104H : Hint := .leaf
noncomputable def F104V (a0 : (Unit × List (El Y169) × El Y3 × Unit)) (a1 : El Y3) (a2 : El Y3) : Option ((Unit × List (El Y169) × El Y3 × Unit)) := evalF F104E F104B Try.f104.results F104H F104A F104R (fun y => y.1.1) (a0, a1, a2, ())
theorem F104_eq (a0 : (Unit × List (El Y169) × El Y3 × Unit)) (a1 : El Y3) (a2 : El Y3) : F104V a0 a1 a2 = F104 a0 a1 a2 := by kernel_rfl
theorem F104_ok : FnOK Try.prog 104 F104S := evalF_ok (E := F104E) (fn := Try.f104) (body := F104B) (hint := F104H) (pack := fun y => y.1.1) hmix (typesOk_of tab_ok rfl rfl rfl) (specsOk_of (m := [(97, [F97S])]) ⟨⟨F97_ok, trivial⟩, trivial⟩ rfl) (by kernel_rfl) (by kernel_rfl) (by kernel_rfl) (by kernel_rfl) (by kernel_rfl) (by kernel_rfl) (fun y => rfl)
  (fun x z h => (F104_eq x.1 x.2.1 x.2.2.1).trans h)
noncomputable def F98 : ((Unit × List (El Y169) × El Y3 × Unit)) → (El Y156) → Option ((Unit × List (El Y169) × El Y3 × Unit)) := fun a0 a1 =>
  Option.bind (Tr.guardB (Decidable.decide (List.length a0.snd.fst + List.length [(a1, a0.snd.snd.fst, ())] ≤ Tr.maxApp))) fun x0 =>
    Option.bind
      (Tr.run
        (fun s1 =>
          bif Decidable.decide ((0 : Int) < s1.snd) then
            Option.bind (F103 ((), s1.fst.snd.fst, s1.fst.snd.snd.fst, ()) s1.snd (Go.IntKind.wrap Go.IntKind.i64 (Int.tdiv (Go.IntKind.wrap Go.IntKind.i64 (s1.snd - (1 : Int))) (2 : Int)))) fun x2 =>
              bif x2.snd then
                Option.bind (F104 ((), x2.fst.snd.fst, x2.fst.snd.snd.fst, ()) s1.snd (Go.IntKind.wrap Go.IntKind.i64 (Int.tdiv (Go.IntKind.wrap Go.IntKind.i64 (s1.snd - (1 : Int))) (2 : Int))))
                  fun x3 => Option.some (Sum.inl (((), x3.snd.fst, x3.snd.snd.fst, ()), Go.IntKind.wrap Go.IntKind.i64 (Int.tdiv (Go.IntKind.wrap Go.IntKind.i64 (s1.snd - (1 : Int))) (2 : Int))))
              else Option.some (Sum.inr ((), x2.fst.snd.fst, x2.fst.snd.snd.fst, ()))
          else Option.some (Sum.inr ((), s1.fst.snd.fst, s1.fst.snd.snd.fst, ())))
        (((), a0.snd.fst ++ [(a1, a0.snd.snd.fst, ())], Go.IntKind.wrap Go.IntKind.i64 (a0.snd.snd.fst + (1 : Int)), ()),
          Go.IntKind.wrap Go.IntKind.i64 ((↑(List.length (a0.snd.fst ++ [(a1, a0.snd.snd.fst, ())])) : Int) - (1 : Int))))
      fun x4 => Option.some ((), x4.snd.fst, x4.snd.snd.fst, ())
abbrev F98A : Pats := (.cons (.var Y167 (.agg (.cons (.fn 97 .nil) (.cons (.own Y169 true) (.cons (.pd Y3) .nil))))) (.cons (.pd Y156) .nil))
abbrev F98R : Pats := .nil
noncomputable def F98S : Tr.Spec := { args := F98A, res := F98R, fns := [], α := (Unit × List (El Y169) × El Y3 × Unit), f := fun x => F98 x.1 x.2.1, unp := fun z => ((z, (), ()), ()) }
noncomputable def F98E : Env := { ty := fun n => tyTab.lookup n, mty := fun n => mapTab.lookup n, pk := fun n => (pkTab.lookup n).getD 0, rw := fun n => [].contains n, specs := fun n => (([(97, [F97S]), (103, [F103S]), (104, [F104S])] : List (Nat × List Tr.Spec)).lookup n).getD [], nt := 54, ks := [] }
noncomputable def F98B : Code := match Try.f98.body with | some b => b | none => .skip
def F98H : Hint := (.seq .leaf (.seq .leaf (.seq .leaf (.seq .leaf (.seq .leaf (.lp ⟨[(0, (.var Y167 (.agg (.cons (.fn 97 .nil) (.cons (.own Y169 false) (.cons (.pd Y3) .nil)))))), (4, (.pd Y3))], [], []⟩ [((.exit 0), ⟨[(0, (.var Y167 (.agg (.cons (.fn 97 .nil) (.cons (.own Y169 false) (.cons (.pd Y3) .nil))))))], [], []⟩)] .leaf))))))
noncomputable def F98V (a0 : (Unit × List (El Y169) × El Y3 × Unit)) (a1 : El Y156) : Option ((Unit × List (El Y169) × El Y3 × Unit)) := evalF F98E F98B Try.f98.results F98H F98A F98R (fun y => y.1.1) (a0, a1, ())
theorem F98_eq (a0 : (Unit × List (El Y169) × El Y3 × Unit)) (a1 : El Y156) : F98V a0 a1 = F98 a0 a1 := by kernel_rfl
theorem F98_ok : FnOK Try.prog 98 F98S := evalF_ok (E := F98E) (fn := Try.f98) (body := F98B) (hint := F98H) (pack := fun y => y.1.1) hmix (typesOk_of tab_ok rfl rfl rfl) (specsOk_of (m := [(97, [F97S]), (103, [F103S]), (104, [F104S])]) ⟨⟨F97_ok, trivial⟩, ⟨F103_ok, trivial⟩, ⟨F104_ok, trivial⟩, trivial⟩ rfl) (by kernel_rfl) (by kernel_rfl) (by kernel_rfl) (by kernel_rfl) (by kernel_rfl) (by kernel_rfl) (fun y => rfl)
  (fun x z h => (F98_eq x.1 x.2.1).trans h)
noncomputable def F108 : ((Unit × List (El Y169) × El Y3 × Unit)) → Option ((Unit × List (El Y169) × El Y3 × Unit) × El Y3) := fun a0 => Option.some (((), a0.snd.fst, a0.snd.snd.fst, ()), (↑(List.length a0.snd.fst) : Int))
abbrev F108A : Pats := (.cons (.var Y167 (.agg (.cons (.fn 97 .nil) (.cons (.own Y169 true) (.cons (.pd Y3) .nil))))) .nil)
abbrev F108R : Pats := (.cons (.pd Y3) .nil)
noncomputable def F108S : Tr.Spec := { args := F108A, res := F108R, fns := [], α := (Unit × List (El Y169) × El Y3 × Unit) × El Y3, f := fun x => F108 x.1, unp := fun z => ((z.1, ()), (z.2, ())) }
noncomputable def F108E : Env := { ty := fun n => tyTab.lookup n, mty := fun n => mapTab.lookup n, pk := fun n => (pkTab.lookup n).getD 0, rw := fun n => [].contains n, specs := fun n => (([(97, [F97S])] : List (Nat × List Tr.Spec)).lookup n).getD [], nt := 10, ks := [] }
noncomputable def F108B : Code := match Try.f108.body with | some b => b | none => .skip
def F108H : Hint := .leaf
noncomputable def F108V (a0 : (Unit × List (El Y169) × El Y3 × Unit)) : Option ((Unit × List (El Y169) × El Y3 × Unit) × El Y3) := evalF F108E F108B Try.f108.results F108H F108A F108R (fun y => (y.1.1, y.2.1)) (a0, ())
theorem F108_eq (a0 : (Unit × List (El Y169) × El Y3 × Unit)) : F108V a0 = F108 a0 := by kernel_rfl
theorem F108_ok : FnOK Try.prog 108 F108S := evalF_ok (E := F108E) (fn := Try.f108) (body := F108B) (hint := F108H) (pack := fun y => (y.1.1, y.2.1)) hmix (typesOk_of tab_ok rfl rfl rfl) (specsOk_of (m := [(97, [F97S])]) ⟨⟨F97_ok, trivial⟩, trivial⟩ rfl) (by kernel_rfl) (by kernel_rfl) (by kernel_rfl) (by kernel_rfl) (by kernel_rfl) (by kernel_rfl) (fun y => rfl)
  (fun x z h => (F108_eq x.1).trans h)
noncomputable def F105 : ((Unit × List (El Y169) × El Y3 × Unit)) → Option ((Unit × List (El Y169) × El Y3 × Unit) × El Y156 × El Y4) := fun a0 =>
  Option.bind (F108 ((), a0.snd.fst, a0.snd.snd.fst, ())) fun x0 =>
    bif Decidable.decide (x0.snd = (0 : Int)) then Option.some (((), x0.fst.snd.fst, x0.fst.snd.snd.fst, ()), Tr.zeroEl Y156, Bool.false)
    else Option.bind (Tr.inb (0 : Int) (List.length x0.fst.snd.fst)) fun x1 => Option.bind x0.fst.snd.fst[x1]? fun x2 => Option.some (((), x0.fst.snd.fst, x0.fst.snd.snd.fst, ()), x2.fst, Bool.true)
abbrev F105A : Pats := (.cons (.var Y167 (.agg (.cons (.fn 97 .nil) (.cons (.own Y169 true) (.cons (.pd Y3) .nil))))) .nil)
abbrev F105R : Pats := (.cons (.pd Y156) (.cons (.pd Y4) .nil))
noncomputable def F105S : Tr.Spec := { args := F105A, res := F105R, fns := [], α := (Unit × List (El Y169) × El Y3 × Unit) × El Y156 × El Y4, f := fun x => F105 x.1, unp := fun z => ((z.1, ()), (z.2.1, z.2.2, ())) }
noncomputable def F105E : Env := { ty := fun n => tyTab.lookup n, mty := fun n => mapTab.lookup n, pk := fun n => (pkTab.lookup n).getD 0, rw := fun n => [].contains n, specs := fun n => (([(97, [F97S]), (108, [F108S])] : List (Nat × List Tr.Spec)).lookup n).getD [], nt := 16, ks := [] }
noncomputable def F105B : Code := match Try.f105.body with | some b => b | none => .skip
def F105H : Hint := .leaf
noncomputable def F105V (a0 : (Unit × List (El Y169) × El Y3 × Unit)) : Option ((Unit × List (El Y169) × El Y3 × Unit) × El Y156 × El Y4) := evalF F105E F105B Try.f105.results F105H F105A F105R (fun y => (y.1.1, y.2.1, y.2.2.1)) (a0, ())
theorem F105_eq (a0 : (Unit × List (El Y169) × El Y3 × Unit)) : F105V a0 = F105 a0 := by kernel_rfl
theorem F105_ok : FnOK Try.prog 105 F105S := evalF_ok (E := F105E) (fn := Try.f105) (body := F105B) (hint := F105H) (pack := fun y => (y.1.1, y.2.1, y.2.2.1)) hmix (typesOk_of tab_ok rfl rfl rfl) (specsOk_of (m := [(97, [F97S]), (108, [F108S])]) ⟨⟨F97_ok, trivial⟩, ⟨F108_ok, trivial⟩, trivial⟩ rfl) (by kernel_rfl) (by kernel_rfl) (by kernel_rfl) (by kernel_rfl) (by kernel_rfl) (by kernel_rfl) (fun y => rfl)
  (fun x z h => (F105_eq x.1).trans h)
noncomputable def F106 : ((Unit × List (El Y169) × El Y3 × Unit)) → Option ((Unit × List (El Y169) × El Y3 × Unit)) := fun a0 =>
  Option.bind
    (Tr.run
      (fun s0 =>
        bif Decidable.decide ((↑(List.length s0.fst.snd.fst) : Int) ≤ Go.IntKind.wrap Go.IntKind.i64 (Go.IntKind.wrap Go.IntKind.i64 ((2 : Int) * s0.snd) + (1 : Int))) then
          Option.some (Sum.inr ((), s0.fst.snd.fst, s0.fst.snd.snd.fst, ()))
        else
          bif
              Decidable.decide
                (Go.IntKind.wrap Go.IntKind.i64 (Go.IntKind.wrap Go.IntKind.i64 (Go.IntKind.wrap Go.IntKind.i64 ((2 : Int) * s0.snd) + (1 : Int)) + (1 : Int)) <
                  (↑(List.length s0.fst.snd.fst) : Int)) then
            Option.bind
              (F103 ((), s0.fst.snd.fst, s0.fst.snd.snd.fst, ())
                (Go.IntKind.wrap Go.IntKind.i64 (Go.IntKind.wrap Go.IntKind.i64 (Go.IntKind.wrap Go.IntKind.i64 ((2 : Int) * s0.snd) + (1 : Int)) + (1 : Int)))
                (Go.IntKind.wrap Go.IntKind.i64 (Go.IntKind.wrap Go.IntKind.i64 ((2 : Int) * s0.snd) + (1 : Int))))
              fun x1 =>
              Option.bind
                (bif x1.snd then
                  Option.some
                    (((), x1.fst.snd.fst, x1.fst.snd.snd.fst, ()),
                      Go.IntKind.wrap Go.IntKind.i64 (Go.IntKind.wrap Go.IntKind.i64 (Go.IntKind.wrap Go.IntKind.i64 ((2 : Int) * s0.snd) + (1 : Int)) + (1 : Int)))
                else Option.some (((), x1.fst.snd.fst, x1.fst.snd.snd.fst, ()), Go.IntKind.wrap Go.IntKind.i64 (Go.IntKind.wrap Go.IntKind.i64 ((2 : Int) * s0.snd) + (1 : Int))))
                fun x2 =>
                Option.bind (F103 ((), x2.fst.snd.fst, x2.fst.snd.snd.fst, ()) x2.snd s0.snd) fun x3 =>
                  bif !x3.snd then Option.some (Sum.inr ((), x3.fst.snd.fst, x3.fst.snd.snd.fst, ()))
                  else Option.bind (F104 ((), x3.fst.snd.fst, x3.fst.snd.snd.fst, ()) s0.snd x2.snd) fun x4 => Option.some (Sum.inl (((), x4.snd.fst, x4.snd.snd.fst, ()), x2.snd))
          else
            Option.bind (F103 ((), s0.fst.snd.fst, s0.fst.snd.snd.fst, ()) (Go.IntKind.wrap Go.IntKind.i64 (Go.IntKind.wrap Go.IntKind.i64 ((2 : Int) * s0.snd) + (1 : Int))) s0.snd) fun x5 =>
              bif !x5.snd then Option.some (Sum.inr ((), x5.fst.snd.fst, x5.fst.snd.snd.fst, ()))
              else
                Option.bind (F104 ((), x5.fst.snd.fst, x5.fst.snd.snd.fst, ()) s0.snd (Go.IntKind.wrap Go.IntKind.i64 (Go.IntKind.wrap Go.IntKind.i64 ((2 : Int) * s0.snd) + (1 : Int)))) fun x6 =>
                  Option.some (Sum.inl (((), x6.snd.fst, x6.snd.snd.fst, ()), Go.IntKind.wrap Go.IntKind.i64 (Go.IntKind.wrap Go.IntKind.i64 ((2 : Int) * s0.snd) + (1 : Int)))))
      (((), a0.snd.fst, a0.snd.snd.fst, ()), (0 : Int)))
    fun x7 => Option.some ((), x7.snd.fst, x7.snd.snd.fst, ())
abbrev F106A : Pats := (.cons (.var Y167 (.agg (.cons (.fn 97 .nil) (.cons (.own Y169 true) (.cons (.pd Y3) .nil))))) .nil)
abbrev F106R : Pats := .nil
noncomputable def F106S : Tr.Spec := { args := F106A, res := F106R, fns := [], α := (Unit × List (El Y169) × El Y3 × Unit), f := fun x => F106 x.1, unp := fun z => ((z, ()), ()) }
noncomputable def F106E : Env := { ty := fun n => tyTab.lookup n, mty := fun n => mapTab.lookup n, pk := fun n => (pkTab.lookup n).getD 0, rw := fun n => [].contains n, specs := fun n => (([(97, [F97S]), (103, [F103S]), (104, [F104S])] : List (Nat × List Tr.Spec)).lookup n).getD [], nt := 41, ks := [] }
noncomputable def F106B : Code := match Try.f106.body with | some b => b | none => .skip
def F106H : Hint := (.seq .leaf (.lp ⟨[(0, (.var Y167 (.agg (.cons (.fn 97 .nil) (.cons (.own Y169 false) (.cons (.pd Y3) .nil)))))), (2, (.pd Y3))], [], []⟩ [(.ret, ⟨[(0, (.var Y167 (.agg (.cons (.fn 97 .nil) (.cons (.own Y169 false) (.cons (.pd Y3) .nil))))))], [], []⟩)] (.seq .leaf (.seq .leaf (.seq (.seq .leaf (.cnd (some (⟨[], [], [2]⟩, [(.normal, ⟨[(0, (.var Y167 (.agg (.cons (.fn 97 .nil) (.cons (.own Y169 false) (.cons (.pd Y3) .nil)))))), (3, (.pd Y3))], [], [2]⟩)])) .leaf .leaf)) .leaf)))))
noncomputable def F106V (a0 : (Unit × List (El Y169) × El Y3 × Unit)) : Option ((Unit × List (El Y169) × El Y3 × Unit)) := evalF F106E F106B Try.f106.results F106H F106A F106R (fun y => y.1.1) (a0, ())
theorem F106_eq (a0 : (Unit × List (El Y169) × El Y3 × Unit)) : F106V a0 = F106 a0 := by kernel_rfl
theorem F106_ok : FnOK Try.prog 106 F106S := evalF_ok (E := F106E) (fn := Try.f106) (body := F106B) (hint := F106H) (pack := fun y => y.1.1) hmix (typesOk_of tab_ok rfl rfl rfl) (specsOk_of (m := [(97, [F97S]), (103, [F103S]), (104, [F104S])]) ⟨⟨F97_ok, trivial⟩, ⟨F103_ok, trivial⟩, ⟨F104_ok, trivial⟩, trivial⟩ rfl) (by kernel_rfl) (by kernel_rfl) (by kernel_rfl) (by kernel_rfl) (by kernel_rfl) (by kernel_rfl) (fun y => rfl)
  (fun x z h => (F106_eq x.1).trans h)
noncomputable def F99 : ((Unit × List (El Y169) × El Y3 × Unit)) → Option ((Unit × List (El Y169) × El Y3 × Unit) × El Y156 × El Y4) := fun a0 =>
  Option.bind (F105 ((), a0.snd.fst, a0.snd.snd.fst, ())) fun x0 =>
    bif !x0.snd.snd then Option.some (((), x0.fst.snd.fst, x0.fst.snd.snd.fst, ()), x0.snd.fst, Bool.false)
    else
      Option.bind (F104 ((), x0.fst.snd.fst, x0.fst.snd.snd.fst, ()) (0 : Int) (Go.IntKind.wrap Go.IntKind.i64 ((↑(List.length x0.fst.snd.fst) : Int) - (1 : Int)))) fun x1 =>
        Option.bind (Tr.sliceB (List.length x1.snd.fst) (List.length x1.snd.fst) Option.none (Option.some (Go.IntKind.wrap Go.IntKind.i64 ((↑(List.length x0.fst.snd.fst) : Int) - (1 : Int)))))
          fun x2 => Option.bind (F106 ((), List.take x2.snd x1.snd.fst, x1.snd.snd.fst, ())) fun x3 => Option.some (((), x3.snd.fst, x3.snd.snd.fst, ()), x0.snd.fst, Bool.true)
abbrev F99A : Pats := (.cons (.var Y167 (.agg (.cons (.fn 97 .nil) (.cons (.own Y169 true) (.cons (.pd Y3) .nil))))) .nil)
abbrev F99R : Pats := (.cons (.pd Y156) (.cons (.pd Y4) .nil))
noncomputable def F99S : Tr.Spec := { args := F99A, res := F99R, fns := [], α := (Unit × List (El Y169) × El Y3 × Unit) × El Y156 × El Y4, f := fun x => F99 x.1, unp := fun z => ((z.1, ()), (z.2.1, z.2.2, ())) }
noncomputable def F99E : Env := { ty := fun n => tyTab.lookup n, mty := fun n => mapTab.lookup n, pk := fun n => (pkTab.lookup n).getD 0, rw := fun n => [].contains n, specs := fun n => (([(97, [F97S]), (104, [F104S]), (105, [F105S]), (106, [F106S])] : List (Nat × List Tr.Spec)).lookup n).getD [], nt := 36, ks := [] }
noncomputable def F99B : Code := match Try.f99.body with | some b => b | none => .skip
def F99H : Hint := .leaf
noncomputable def F99V (a0 : (Unit × List (El Y169) × El Y3 × Unit)) : Option ((Unit × List (El Y169) × El Y3 × Unit) × El Y156 × El Y4) := evalF F99E F99B Try.f99.results F99H F99A F99R (fun y => (y.1.1, y.2.1, y.2.2.1)) (a0, ())
theorem F99_eq (a0 : (Unit × List (El Y169) × El Y3 × Unit)) : F99V a0 = F99 a0 := by kernel_rfl
theorem F99_ok : FnOK Try.prog 99 F99S := evalF_ok (E := F99E) (fn := Try.f99) (body := F99B) (hint := F99H) (pack := fun y => (y.1.1, y.2.1, y.2.2.1)) hmix (typesOk_of tab_ok rfl rfl rfl) (specsOk_of (m := [(97, [F97S]), (104, [F104S]), (105, [F105S]), (106, [F106S])]) ⟨⟨F97_ok, trivial⟩, ⟨F104_ok, trivial⟩, ⟨F105_ok, trivial⟩, ⟨F106_ok, trivial⟩, trivial⟩ rfl) (by kernel_rfl) (by kernel_rfl) (by kernel_rfl) (by kernel_rfl) (by kernel_rfl) (by kernel_rfl) (fun y => rfl)
  (fun x z h => (F99_eq x.1).trans h)
noncomputable def F96_97 : (Unit) → Option ((Unit × List (El Y169) × El Y3 × Unit)) := fun a0 => Option.some ((), [], Tr.zeroEl Y3, ())
abbrev F96_97A : Pats := (.cons (.fn 97 .nil) .nil)
abbrev F96_97R : Pats := (.cons (.var Y167 (.agg (.cons (.fn 97 .nil) (.cons (.own Y169 true) (.cons (.pd Y3) .nil))))) .nil)
noncomputable def F96_97S : Tr.Spec := { args := F96_97A, res := F96_97R, fns := [97], α := (Unit × List (El Y169) × El Y3 × Unit), f := fun x => F96_97 x.1, unp := fun z => (((), ()), (z, ())) }
noncomputable def F96_97E : Env := { ty := fun n => tyTab.lookup n, mty := fun n => mapTab.lookup n, pk := fun n => (pkTab.lookup n).getD 0, rw := fun n => [].contains n, specs := fun n => (([(97, [F97S])] : List (Nat × List Tr.Spec)).lookup n).getD [], nt := 8, ks := [] }
noncomputable def F96_97B : Code := match Try.f96.body with | some b => b | none => .skip
def F96_97H : Hint := .leaf
noncomputable def F96_97V (a0 : Unit) : Option ((Unit × List (El Y169) × El Y3 × Unit)) := evalF F96_97E F96_97B Try.f96.results F96_97H F96_97A F96_97R (fun y => y.2.1) (a0, ())
theorem F96_97_eq (a0 : Unit) : F96_97V a0 = F96_97 a0 := by kernel_rfl
theorem F96_97_ok : FnOK Try.prog 96 F96_97S := evalF_ok (E := F96_97E) (fn := Try.f96) (body := F96_97B) (hint := F96_97H) (pack := fun y => y.2.1) hmix (typesOk_of tab_ok rfl rfl rfl) (specsOk_of (m := [(97, [F97S])]) ⟨⟨F97_ok, trivial⟩, trivial⟩ rfl) (by kernel_rfl) (by kernel_rfl) (by kernel_rfl) (by kernel_rfl) (by kernel_rfl) (by kernel_rfl) (fun y => rfl)
  (fun x z h => (F96_97_eq x.1).trans h)
noncomputable def F86 : (El Y3) → (List (El Y3 × List (El Y140))) → (El Y3) → Option (List (El Y3 × List (El Y140)) × El Y148) := fun a0 a1 a2 =>
  Option.bind (Tr.guardB (Decidable.decide ((0 : Tr.El (Tr.Ty.int Go.IntKind.i64)) ≤ a0 ∧ a0 ≤ a0 ∧ a0 ≤ (↑Tr.maxApp : Tr.El (Tr.Ty.int Go.IntKind.i64))))) fun x0 =>
    Option.bind
      (Tr.run
        (fun s1 =>
          bif Decidable.decide (s1.snd < (↑(List.length (List.replicate (Int.toNat a0) (Tr.zeroEl Y156))) : Int)) then
            Option.bind (Tr.inb s1.snd (List.length s1.fst)) fun x2 =>
              Option.bind s1.fst[x2]? fun x3 => Option.some (Sum.inl (List.set s1.fst x2 (s1.snd, (-1 : Int), (-1 : Int), ()), Go.IntKind.wrap Go.IntKind.i64 (s1.snd + (1 : Int))))
          else Option.some (Sum.inr s1.fst))
        (List.replicate (Int.toNat a0) (Tr.zeroEl Y156), (0 : Int)))
      fun x4 =>
      Option.bind (F96_97 ()) fun x5 =>
        Option.bind (F98 ((), x5.snd.fst, x5.snd.snd.fst, ()) (a2, Tr.zeroEl Y3, Tr.zeroEl Y3, ())) fun x6 =>
          Option.bind
            (Tr.run
              (fun s7 =>
                Option.bind (F99 ((), s7.snd.snd.fst, s7.snd.snd.snd.fst, ())) fun x8 =>
                  bif !x8.snd.snd then Option.some (Sum.inr s7.fst)
                  else
                    Option.bind (Tr.inb x8.snd.fst.fst (List.length s7.fst)) fun x9 =>
                      Option.bind s7.fst[x9]? fun x10 =>
                        bif Decidable.decide ((0 : Int) ≤ x10.snd.snd.fst) then Option.some (Sum.inl (s7.fst, (), x8.fst.snd.fst, x8.fst.snd.snd.fst, ()))
                        else
                          Option.bind (Tr.inb x8.snd.fst.fst (List.length s7.fst)) fun x11 =>
                            Option.bind s7.fst[x11]? fun x12 =>
                              Option.bind
                                (Tr.run
                                  (fun s13 =>
                                    bif Decidable.decide (s13.snd < (↑(List.length (Option.getD (Tr.amGet (Tr.keyEq Y3) x8.snd.fst.fst a1) [])) : Int)) then
                                      Option.bind (Tr.inb s13.snd (List.length (Option.getD (Tr.amGet (Tr.keyEq Y3) x8.snd.fst.fst a1) []))) fun x14 =>
                                        Option.bind (Option.getD (Tr.amGet (Tr.keyEq Y3) x8.snd.fst.fst a1) [])[x14]? fun x15 =>
                                          Option.bind (Tr.inb x15.snd.fst (List.length (List.set s7.fst x11 x8.snd.fst))) fun x16 =>
                                            Option.bind (List.set s7.fst x11 x8.snd.fst)[x16]? fun x17 =>
                                              bif Decidable.decide (x17.snd.snd.fst < (0 : Int)) then
                                                Option.bind
                                                  (F98 ((), s13.fst.snd.fst, s13.fst.snd.snd.fst, ())
                                                    (x15.snd.fst, Go.IntKind.wrap Go.IntKind.i64 (x8.snd.fst.snd.fst + x15.snd.snd.fst),
                                                      Go.IntKind.wrap Go.IntKind.i64 (x8.snd.fst.snd.snd.fst + (1 : Int)), ()))
                                                  fun x18 => Option.some (Sum.inl (((), x18.snd.fst, x18.snd.snd.fst, ()), Go.IntKind.wrap Go.IntKind.i64 (s13.snd + (1 : Int))))
                                              else Option.some (Sum.inl (((), s13.fst.snd.fst, s13.fst.snd.snd.fst, ()), Go.IntKind.wrap Go.IntKind.i64 (s13.snd + (1 : Int))))
                                    else Option.some (Sum.inr ((), s13.fst.snd.fst, s13.fst.snd.snd.fst, ())))
                                  (((), x8.fst.snd.fst, x8.fst.snd.snd.fst, ()), (0 : Int)))
                                fun x19 => Option.some (Sum.inl (List.set s7.fst x11 x8.snd.fst, (), x19.snd.fst, x19.snd.snd.fst, ())))
              (x4, (), x6.snd.fst, x6.snd.snd.fst, ()))
            fun x20 => Option.some (a1, x20)
abbrev F86A : Pats := (.cons (.pd Y3) (.cons (.mrows Y3 Y140) (.cons (.pd Y3) .nil)))
abbrev F86R : Pats := (.cons (.pd Y148) .nil)
noncomputable def F86S : Tr.Spec := { args := F86A, res := F86R, fns := [], α := List (El Y3 × List (El Y140)) × El Y148, f := fun x => F86 x.1 x.2.1 x.2.2.1, unp := fun z => (((), z.1, (), ()), (z.2, ())) }
noncomputable def F86E : Env := { ty := fun n => tyTab.lookup n, mty := fun n => mapTab.lookup n, pk := fun n => (pkTab.lookup n).getD 0, rw := fun n => [].contains n, specs := fun n => (([(96, [F96_97S]), (97, [F97S]), (98, [F98S]), (99, [F99S])] : List (Nat × List Tr.Spec)).lookup n).getD [], nt := 82, ks := [] }
noncomputable def F86B : Code := match Try.f86.body with | some b => b | none => .skip
def F86H : Hint := (.seq .leaf (.seq .leaf (.seq (.seq .leaf (.lp ⟨[(7, (.own Y156 false)), (18, (.pd Y3))], [], [1, 2, 17]⟩ [((.exit 0), ⟨[(7, (.own Y156 false))], [], [1, 2]⟩)] .leaf)) (.seq .leaf (.seq .leaf (.lp ⟨[(7, (.own Y156 false)), (9, (.var Y167 (.agg (.cons (.fn 97 .nil) (.cons (.own Y169 false) (.cons (.pd Y3) .nil))))))], [], [1]⟩ [(.ret, ⟨[(6, (.own Y156 false))], [], [1]⟩)] (.seq .leaf (.seq .leaf (.seq .leaf (.seq .leaf (.seq .leaf (.lp ⟨[(9, (.var Y167 (.agg (.cons (.fn 97 .nil) (.cons (.own Y169 false) (.cons (.pd Y3) .nil)))))), (57, (.pd Y3))], [], [1, 7, 10, 55, 56]⟩ [((.exit 4), ⟨[(9, (.var Y167 (.agg (.cons (.fn 97 .nil) (.cons (.own Y169 false) (.cons (.pd Y3) .nil))))))], [], [1, 7]⟩)] .leaf))))))))))))
noncomputable def F86V (a0 : El Y3) (a1 : List (El Y3 × List (El Y140))) (a2 : El Y3) : Option (List (El Y3 × List (El Y140)) × El Y148) := evalF F86E F86B Try.f86.results F86H F86A F86R (fun y => (y.1.2.1, y.2.1)) (a0, a1, a2, ())
theorem F86_eq (a0 : El Y3) (a1 : List (El Y3 × List (El Y140))) (a2 : El Y3) : F86V a0 a1 a2 = F86 a0 a1 a2 := by kernel_rfl
theorem F86_ok : FnOK Try.prog 86 F86S := evalF_ok (E := F86E) (fn := Try.f86) (body := F86B) (hint := F86H) (pack := fun y => (y.1.2.1, y.2.1)) hmix (typesOk_of tab_ok rfl rfl rfl) (specsOk_of (m := [(96, [F96_97S]), (97, [F97S]), (98, [F98S]), (99, [F99S])]) ⟨⟨F96_97_ok, trivial⟩, ⟨F97_ok, trivial⟩, ⟨F98_ok, trivial⟩, ⟨F99_ok, trivial⟩, trivial⟩ rfl) (by kernel_rfl) (by kernel_rfl) (by kernel_rfl) (by kernel_rfl) (by kernel_rfl) (by kernel_rfl) (fun y => rfl)
  (fun x z h => (F86_eq x.1 x.2.1 x.2.2.1).trans h)
noncomputable def F80 : (El Y3) → (El Y138) → Option (El Y116 × El Y42) := fun a0 a1 =>
  Option.bind (F83 a0 a1 []) fun x0 =>
    bif !Decidable.decide (x0 = (0 : Int)) then Option.some ([], x0)
    else
      Option.bind (F84 a1 Bool.false) fun x1 =>
        Option.bind (Tr.guardB (Decidable.decide ((0 : Tr.El (Tr.Ty.int Go.IntKind.i64)) ≤ a0 ∧ a0 ≤ a0 ∧ a0 ≤ (↑Tr.maxApp : Tr.El (Tr.Ty.int Go.IntKind.i64))))) fun x2 =>
          Option.bind
            (Tr.run
              (fun s3 =>
                bif Decidable.decide (s3.snd.snd < (↑(List.length (List.replicate (Int.toNat a0) (Tr.zeroEl Y45))) : Int)) then
                  Option.bind (F86 a0 s3.fst s3.snd.snd) fun x4 =>
                    Option.bind (F85 x4.snd) fun x5 =>
                      Option.bind (Tr.inb s3.snd.snd (List.length s3.snd.fst)) fun x6 =>
                        Option.bind s3.snd.fst[x6]? fun x7 => Option.some (Sum.inl (x4.fst, List.set s3.snd.fst x6 x5, Go.IntKind.wrap Go.IntKind.i64 (s3.snd.snd + (1 : Int))))
                else Option.some (Sum.inr s3.snd.fst))
              (x1, List.replicate (Int.toNat a0) (Tr.zeroEl Y45), (0 : Int)))
            fun x8 => Option.some (x8, (0 : Int))
abbrev F80A : Pats := (.cons (.pd Y3) (.cons (.pd Y138) .nil))
abbrev F80R : Pats := (.cons (.pd Y116) (.cons (.pd Y42) .nil))
noncomputable def F80S : Tr.Spec := { args := F80A, res := F80R, fns := [], α := El Y116 × El Y42, f := fun x => F80 x.1 x.2.1, unp := fun z => (((), (), ()), (z.1, z.2, ())) }
noncomputable def F80E : Env := { ty := fun n => tyTab.lookup n, mty := fun n => mapTab.lookup n, pk := fun n => (pkTab.lookup n).getD 0, rw := fun n => [].contains n, specs := fun n => (([(83, [F83S]), (84, [F84S]), (85, [F85S]), (86, [F86S])] : List (Nat × List Tr.Spec)).lookup n).getD [], nt := 35, ks := [] }
noncomputable def F80B : Code := match Try.f80.body with | some b => b | none => .skip
def F80H : Hint := (.seq .leaf (.seq .leaf (.seq .leaf (.seq .leaf (.seq .leaf (.seq (.seq .leaf (.lp ⟨[(7, (.mrows Y3 Y140)), (8, (.own Y45 false)), (22, (.pd Y3))], [], [0, 21]⟩ [((.exit 0), ⟨[(8, (.own Y45 false))], [], []⟩)] .leaf)) .leaf))))))
noncomputable def F80V (a0 : El Y3) (a1 : El Y138) : Option (El Y116 × El Y42) := evalF F80E F80B Try.f80.results F80H F80A F80R (fun y => (y.2.1, y.2.2.1)) (a0, a1, ())
theorem F80_eq (a0 : El Y3) (a1 : El Y138) : F80V a0 a1 = F80 a0 a1 := by kernel_rfl
theorem F80_ok : FnOK Try.prog 80 F80S := evalF_ok (E := F80E) (fn := Try.f80) (body := F80B) (hint := F80H) (pack := fun y => (y.2.1, y.2.2.1)) hmix (typesOk_of tab_ok rfl rfl rfl) (specsOk_of (m := [(83, [F83S]), (84, [F84S]), (85, [F85S]), (86, [F86S])]) ⟨⟨F83_ok, trivial⟩, ⟨F84_ok, trivial⟩, ⟨F85_ok, trivial⟩, ⟨F86_ok, trivial⟩, trivial⟩ rfl) (by kernel_rfl) (by kernel_rfl) (by kernel_rfl) (by kernel_rfl) (by kernel_rfl) (by kernel_rfl) (fun y => rfl)
  (fun x z h => (F80_eq x.1 x.2.1).trans h)
noncomputable def F73 : (El Y35) → (El Y3) → (El Y4) → Option (El Y116) := fun a0 a1 a2 =>
  Option.bind
    (Tr.run
      (fun s0 =>
        bif Decidable.decide (s0.snd < (↑(List.length a0) : Int)) then
          Option.bind (Tr.idx a0 s0.snd) fun x1 =>
            Option.bind (bif a2 then Option.some !x1.snd.snd.snd.fst else Option.some Bool.false) fun x2 =>
              bif x2 then Option.some (Sum.inl (s0.fst, Go.IntKind.wrap Go.IntKind.i64 (s0.snd + (1 : Int))))
              else
                Option.bind
                  (bif !Option.isSome (Tr.amGet (Tr.keyEq Y128) (x1.fst, x1.snd.fst, Tr.zeroEl Y4, ()) s0.fst) then Option.some Bool.true
                  else Option.some (Decidable.decide (x1.snd.snd.fst < Option.getD (Tr.amGet (Tr.keyEq Y128) (x1.fst, x1.snd.fst, Tr.zeroEl Y4, ()) s0.fst) (Tr.zeroEl Y3))))
                  fun x3 =>
                  bif x3 then Option.some (Sum.inl (Tr.amSet (Tr.keyEq Y128) (x1.fst, x1.snd.fst, Tr.zeroEl Y4, ()) x1.snd.snd.fst s0.fst, Go.IntKind.wrap Go.IntKind.i64 (s0.snd + (1 : Int))))
                  else Option.some (Sum.inl (s0.fst, Go.IntKind.wrap Go.IntKind.i64 (s0.snd + (1 : Int))))
        else Option.some (Sum.inr s0.fst))
      ([], (0 : Int)))
    fun x4 =>
    Option.bind
      (Tr.guardB
        (Decidable.decide ((0 : Tr.El (Tr.Ty.int Go.IntKind.i64)) ≤ (0 : Int) ∧ (0 : Int) ≤ (↑(List.length x4) : Int) ∧ (↑(List.length x4) : Int) ≤ (↑Tr.maxApp : Tr.El (Tr.Ty.int Go.IntKind.i64)))))
      fun x5 =>
      Option.bind (Tr.guardB (List.isEmpty x4)) fun x6 =>
        Option.bind (Tr.run (fun s7 => Option.some (Sum.inr s7)) (List.replicate (Int.toNat (0 : Int)) (Tr.zeroEl Y140))) fun x8 => Option.bind (F80 a1 x8) fun x9 => Option.some x9.fst
abbrev F73A : Pats := (.cons (.pd Y35) (.cons (.pd Y3) (.cons (.pd Y4) .nil)))
abbrev F73R : Pats := (.cons (.pd Y116) .nil)
noncomputable def F73S : Tr.Spec := { args := F73A, res := F73R, fns := [], α := El Y116, f := fun x => F73 x.1 x.2.1 x.2.2.1, unp := fun z => (((), (), (), ()), (z, ())) }
noncomputable def F73E : Env := { ty := fun n => tyTab.lookup n, mty := fun n => mapTab.lookup n, pk := fun n => (pkTab.lookup n).getD 0, rw := fun n => [].contains n, specs := fun n => (([(80, [F80S])] : List (Nat × List Tr.Spec)).lookup n).getD [], nt := 81, ks := [] }
noncomputable def F73B : Code := match Try.f73.body with | some b => b | none => .skip
def F73H : Hint := (.seq .leaf (.seq .leaf (.seq (.seq .leaf (.lp ⟨[(7, (.map Y128 Y3)), (21, (.pd Y3))], [], [1, 2, 19, 20]⟩ [((.exit 0), ⟨[(7, (.map Y128 Y3))], [], [1]⟩)] (.seq .leaf (.seq .leaf (.seq (.seq .leaf (.seq (.seq (.reg [(30, Y4)]) .leaf) (.seq .leaf (.seq .leaf (.seq (.reg [(49, Y4)]) .leaf))))) .leaf))))) (.seq .leaf (.seq (.seq .leaf (.lp ⟨[(13, (.own Y140 false))], [], [1, 59]⟩ [((.exit 2), ⟨[(13, (.own Y140 false))], [], [1]⟩)] .leaf)) .leaf)))))
noncomputable def F73V (a0 : El Y35) (a1 : El Y3) (a2 : El Y4) : Option (El Y116) := evalF F73E F73B Try.f73.results F73H F73A F73R (fun y => y.2.1) (a0, a1, a2, ())
theorem F73_eq (a0 : El Y35) (a1 : El Y3) (a2 : El Y4) : F73V a0 a1 a2 = F73 a0 a1 a2 := by kernel_rfl
theorem F73_ok : FnOK Try.prog 73 F73S := evalF_ok (E := F73E) (fn := Try.f73) (body := F73B) (hint := F73H) (pack := fun y => y.2.1) hmix (typesOk_of tab_ok rfl rfl rfl) (specsOk_of (m := [(80, [F80S])]) ⟨⟨F80_ok, trivial⟩, trivial⟩ rfl) (by kernel_rfl) (by kernel_rfl) (by kernel_rfl) (by kernel_rfl) (by kernel_rfl) (by kernel_rfl) (fun y => rfl)
  (fun x z h => (F73_eq x.1 x.2.1 x.2.2.1).trans h)
noncomputable def F77 : (El Y45) → Option (El Y3) := fun a0 =>
  Option.bind
    (Tr.run
      (fun s0 =>
        bif Decidable.decide (s0 < (↑(List.length a0) : Int)) then
          Option.bind (Tr.idx a0 s0) fun x1 =>
            bif !Decidable.decide (x1 = (0 : Int)) then Option.some (Sum.inr (Sum.inr x1)) else Option.some (Sum.inl (Go.IntKind.wrap Go.IntKind.i64 (s0 + (1 : Int))))
        else Option.some (Sum.inr (Sum.inl ())))
      (0 : Int))
    fun x2 => Sum.elim (fun y3 => Option.some (0 : Int)) (fun y4 => Option.some y4) x2
abbrev F77A : Pats := (.cons (.pd Y45) .nil)
abbrev F77R : Pats := (.cons (.pd Y3) .nil)
noncomputable def F77S : Tr.Spec := { args := F77A, res := F77R, fns := [], α := El Y3, f := fun x => F77 x.1, unp := fun z => (((), ()), (z, ())) }
noncomputable def F77E : Env := { ty := fun n => tyTab.lookup n, mty := fun n => mapTab.lookup n, pk := fun n => (pkTab.lookup n).getD 0, rw := fun n => [].contains n, specs := fun n => (([] : List (Nat × List Tr.Spec)).lookup n).getD [], nt := 18, ks := [] }
noncomputable def F77B : Code := match Try.f77.body with | some b => b | none => .skip
def F77H : Hint := (.seq .leaf (.seq .leaf (.seq (.seq .leaf (.lp ⟨[(8, (.pd Y3))], [], [3, 6, 7]⟩ [((.exit 0), ⟨[], [], [3]⟩), (.ret, ⟨[(2, (.pd Y3))], [], []⟩)] .leaf)) .leaf)))
noncomputable def F77V (a0 : El Y45) : Option (El Y3) := evalF F77E F77B Try.f77.results F77H F77A F77R (fun y => y.2.1) (a0, ())
theorem F77_eq (a0 : El Y45) : F77V a0 = F77 a0 := by kernel_rfl
theorem F77_ok : FnOK Try.prog 77 F77S := evalF_ok (E := F77E) (fn := Try.f77) (body := F77B) (hint := F77H) (pack := fun y => y.2.1) hmix (typesOk_of tab_ok rfl rfl rfl) (specsOk_of (m := []) trivial rfl) (by kernel_rfl) (by kernel_rfl) (by kernel_rfl) (by kernel_rfl) (by kernel_rfl) (by kernel_rfl) (fun y => rfl)
  (fun x z h => (F77_eq x.1).trans h)
noncomputable def F82 : (El Y3) → Option (El Y4) := fun a0 => Option.some !Decidable.decide (a0 = a0)
abbrev F82A : Pats := (.cons (.pd Y3) .nil)
abbrev F82R : Pats := (.cons (.pd Y4) .nil)
noncomputable def F82S : Tr.Spec := { args := F82A, res := F82R, fns := [], α := El Y4, f := fun x => F82 x.1, unp := fun z => (((), ()), (z, ())) }
noncomputable def F82E : Env := { ty := fun n => tyTab.lookup n, mty := fun n => mapTab.lookup n, pk := fun n => (pkTab.lookup n).getD 0, rw := fun n => [].contains n, specs := fun n => (([] : List (Nat × List Tr.Spec)).lookup n).getD [], nt := 6, ks := [] }
noncomputable def F82B : Code := match Try.f82.body with | some b => b | none => .skip
def F82H : Hint := .leaf
noncomputable def F82V (a0 : El Y3) : Option (El Y4) := evalF F82E F82B Try.f82.results F82H F82A F82R (fun y => y.2.1) (a0, ())
theorem F82_eq (a0 : El Y3) : F82V a0 = F82 a0 := by kernel_rfl
theorem F82_ok : FnOK Try.prog 82 F82S := evalF_ok (E := F82E) (fn := Try.f82) (body := F82B) (hint := F82H) (pack := fun y => y.2.1) hmix (typesOk_of tab_ok rfl rfl rfl) (specsOk_of (m := []) trivial rfl) (by kernel_rfl) (by kernel_rfl) (by kernel_rfl) (by kernel_rfl) (by kernel_rfl) (by kernel_rfl) (fun y => rfl)
  (fun x z h => (F82_eq x.1).trans h)
noncomputable def F78 : (El Y3) → (El Y3) → Option (El Y3) := fun a0 a1 =>
  Option.bind (F82 a0) fun x0 =>
    Option.bind (F82 a1) fun x1 =>
      bif x0 then bif x1 then Option.some (0 : Int) else Option.some (-1 : Int)
      else bif x1 then Option.some (1 : Int) else bif Decidable.decide (a0 < a1) then Option.some (-1 : Int) else bif Decidable.decide (a1 < a0) then Option.some (1 : Int) else Option.some (0 : Int)
abbrev F78A : Pats := (.cons (.pd Y3) (.cons (.pd Y3) .nil))
abbrev F78R : Pats := (.cons (.pd Y3) .nil)
noncomputable def F78S : Tr.Spec := { args := F78A, res := F78R, fns := [], α := El Y3, f := fun x => F78 x.1 x.2.1, unp := fun z => (((), (), ()), (z, ())) }
noncomputable def F78E : Env := { ty := fun n => tyTab.lookup n, mty := fun n => mapTab.lookup n, pk := fun n => (pkTab.lookup n).getD 0, rw := fun n => [].contains n, specs := fun n => (([(82, [F82S])] : List (Nat × List Tr.Spec)).lookup n).getD [], nt := 20, ks := [] }
noncomputable def F78B : Code := match Try.f78.body with | some b => b | none => .skip
def F78H : Hint := .leaf
noncomputable def F78V (a0 : El Y3) (a1 : El Y3) : Option (El Y3) := evalF F78E F78B Try.f78.results F78H F78A F78R (fun y => y.2.1) (a0, a1, ())
theorem F78_eq (a0 : El Y3) (a1 : El Y3) : F78V a0 a1 = F78 a0 a1 := by kernel_rfl
theorem F78_ok : FnOK Try.prog 78 F78S := evalF_ok (E := F78E) (fn := Try.f78) (body := F78B) (hint := F78H) (pack := fun y => y.2.1) hmix (typesOk_of tab_ok rfl rfl rfl) (specsOk_of (m := [(82, [F82S])]) ⟨⟨F82_ok, trivial⟩, trivial⟩ rfl) (by kernel_rfl) (by kernel_rfl) (by kernel_rfl) (by kernel_rfl) (by kernel_rfl) (by kernel_rfl) (fun y => rfl)
  (fun x z h => (F78_eq x.1 x.2.1).trans h)
noncomputable def F76 : (El Y87) → (El Y87) → Option (El Y3) := fun a0 a1 =>
  Option.bind (F78 a0.fst a1.fst) fun x0 =>
    Option.bind (F78 a0.snd.fst a1.snd.fst) fun x1 => Option.bind (F78 a0.snd.snd.fst a1.snd.snd.fst) fun x2 => Option.bind (F77 [x0, x1, x2]) fun x3 => Option.some x3
abbrev F76A : Pats := (.cons (.pd Y87) (.cons (.pd Y87) .nil))
abbrev F76R : Pats := (.cons (.pd Y3) .nil)
noncomputable def F76S : Tr.Spec := { args := F76A, res := F76R, fns := [], α := El Y3, f := fun x => F76 x.1 x.2.1, unp := fun z => (((), (), ()), (z, ())) }
noncomputable def F76E : Env := { ty := fun n => tyTab.lookup n, mty := fun n => mapTab.lookup n, pk := fun n => (pkTab.lookup n).getD 0, rw := fun n => [].contains n, specs := fun n => (([(77, [F77S]), (78, [F78S])] : List (Nat × List Tr.Spec)).lookup n).getD [], nt := 22, ks := [] }
noncomputable def F76B : Code := match Try.f76.body with | some b => b | none => .skip
def F76H : Hint := .leaf
noncomputable def F76V (a0 : El Y87) (a1 : El Y87) : Option (El Y3) := evalF F76E F76B Try.f76.results F76H F76A F76R (fun y => y.2.1) (a0, a1, ())
theorem F76_eq (a0 : El Y87) (a1 : El Y87) : F76V a0 a1 = F76 a0 a1 := by kernel_rfl
theorem F76_ok : FnOK Try.prog 76 F76S := evalF_ok (E := F76E) (fn := Try.f76) (body := F76B) (hint := F76H) (pack := fun y => y.2.1) hmix (typesOk_of tab_ok rfl rfl rfl) (specsOk_of (m := [(77, [F77S]), (78, [F78S])]) ⟨⟨F77_ok, trivial⟩, ⟨F78_ok, trivial⟩, trivial⟩ rfl) (by kernel_rfl) (by kernel_rfl) (by kernel_rfl) (by kernel_rfl) (by kernel_rfl) (by kernel_rfl) (fun y => rfl)
  (fun x z h => (F76_eq x.1 x.2.1).trans h)
noncomputable def F74 : (El Y3) → (El Y3) → (El Y3) → (El Y4) → (List (El Y87)) → Option (List (El Y87)) := fun a0 a1 a2 a3 a4 =>
  Option.bind (bif Decidable.decide ((0 : Int) < a2) then Option.some (Decidable.decide (a2 ≤ (14400 : Int))) else Option.some Bool.false) fun x0 =>
    bif x0 then Option.bind (Tr.guardB (Decidable.decide (List.length a4 + List.length [(a0, a1, a2, a3, ())] ≤ Tr.maxApp))) fun x1 => Option.some (a4 ++ [(a0, a1, a2, a3, ())]) else Option.some a4
abbrev F74A : Pats := (.cons (.pd Y3) (.cons (.pd Y3) (.cons (.pd Y3) (.cons (.pd Y4) (.cons (.var Y35 (.own Y87 false)) .nil)))))
abbrev F74R : Pats := .nil
noncomputable def F74S : Tr.Spec := { args := F74A, res := F74R, fns := [], α := List (El Y87), f := fun x => F74 x.1 x.2.1 x.2.2.1 x.2.2.2.1 x.2.2.2.2.1, unp := fun z => (((), (), (), (), z, ()), ()) }
noncomputable def F74E : Env := { ty := fun n => tyTab.lookup n, mty := fun n => mapTab.lookup n, pk := fun n => (pkTab.lookup n).getD 0, rw := fun n => [].contains n, specs := fun n => (([] : List (Nat × List Tr.Spec)).lookup n).getD [], nt := 23, ks := [] }
noncomputable def F74B : Code := match Try.f74.body with | some b => b | none => .skip
def F74H : Hint := (.seq (.reg [(14, Y4)]) .leaf)
noncomputable def F74V (a0 : El Y3) (a1 : El Y3) (a2 : El Y3) (a3 : El Y4) (a4 : List (El Y87)) : Option (List (El Y87)) := evalF F74E F74B Try.f74.results F74H F74A F74R (fun y => y.1.2.2.2.2.1) (a0, a1, a2, a3, a4, ())
theorem F74_eq (a0 : El Y3) (a1 : El Y3) (a2 : El Y3) (a3 : El Y4) (a4 : List (El Y87)) : F74V a0 a1 a2 a3 a4 = F74 a0 a1 a2 a3 a4 := by kernel_rfl
theorem F74_ok : FnOK Try.prog 74 F74S := evalF_ok (E := F74E) (fn := Try.f74) (body := F74B) (hint := F74H) (pack := fun y => y.1.2.2.2.2.1) hmix (typesOk_of tab_ok rfl rfl rfl) (specsOk_of (m := []) trivial rfl) (by kernel_rfl) (by kernel_rfl) (by kernel_rfl) (by kernel_rfl) (by kernel_rfl) (by kernel_rfl) (fun y => rfl)
  (fun x z h => (F74_eq x.1 x.2.1 x.2.2.1 x.2.2.2.1 x.2.2.2.2.1).trans h)
noncomputable def F62 : (El Y113) → Option (El Y3) := fun a0 =>
  Option.bind
    (bif Decidable.decide ((65536 : Int) ≤ a0) then Option.some (Int.fdiv a0 ((2 : Int) ^ Min.min (Int.toNat (16 : Int)) (Go.IntKind.bits Go.IntKind.u32)), (16 : Int))
    else Option.some (a0, (0 : Int)))
    fun x0 =>
    Option.bind
      (bif Decidable.decide ((256 : Int) ≤ x0.fst) then
        Option.some (Int.fdiv x0.fst ((2 : Int) ^ Min.min (Int.toNat (8 : Int)) (Go.IntKind.bits Go.IntKind.u32)), Go.IntKind.wrap Go.IntKind.i64 (x0.snd + (8 : Int)))
      else Option.some (x0.fst, x0.snd))
      fun x1 =>
      Option.bind
        (Tr.idx
          [(0 : UInt8), (1 : UInt8), (2 : UInt8), (2 : UInt8), (3 : UInt8), (3 : UInt8), (3 : UInt8), (3 : UInt8), (4 : UInt8), (4 : UInt8), (4 : UInt8), (4 : UInt8), (4 : UInt8), (4 : UInt8),
            (4 : UInt8), (4 : UInt8), (5 : UInt8), (5 : UInt8), (5 : UInt8), (5 : UInt8), (5 : UInt8), (5 : UInt8), (5 : UInt8), (5 : UInt8), (5 : UInt8), (5 : UInt8), (5 : UInt8), (5 : UInt8),
            (5 : UInt8), (5 : UInt8), (5 : UInt8), (5 : UInt8), (6 : UInt8), (6 : UInt8), (6 : UInt8), (6 : UInt8), (6 : UInt8), (6 : UInt8), (6 : UInt8), (6 : UInt8), (6 : UInt8), (6 : UInt8),
            (6 : UInt8), (6 : UInt8), (6 : UInt8), (6 : UInt8), (6 : UInt8), (6 : UInt8), (6 : UInt8), (6 : UInt8), (6 : UInt8), (6 : UInt8), (6 : UInt8), (6 : UInt8), (6 : UInt8), (6 : UInt8),
            (6 : UInt8), (6 : UInt8), (6 : UInt8), (6 : UInt8), (6 : UInt8), (6 : UInt8), (6 : UInt8), (6 : UInt8), (7 : UInt8), (7 : UInt8), (7 : UInt8), (7 : UInt8), (7 : UInt8), (7 : UInt8),
            (7 : UInt8), (7 : UInt8), (7 : UInt8), (7 : UInt8), (7 : UInt8), (7 : UInt8), (7 : UInt8), (7 : UInt8), (7 : UInt8), (7 : UInt8), (7 : UInt8), (7 : UInt8), (7 : UInt8), (7 : UInt8),
            (7 : UInt8), (7 : UInt8), (7 : UInt8), (7 : UInt8), (7 : UInt8), (7 : UInt8), (7 : UInt8), (7 : UInt8), (7 : UInt8), (7 : UInt8), (7 : UInt8), (7 : UInt8), (7 : UInt8), (7 : UInt8),
            (7 : UInt8), (7 : UInt8), (7 : UInt8), (7 : UInt8), (7 : UInt8), (7 : UInt8), (7 : UInt8), (7 : UInt8), (7 : UInt8), (7 : UInt8), (7 : UInt8), (7 : UInt8), (7 : UInt8), (7 : UInt8),
            (7 : UInt8), (7 : UInt8), (7 : UInt8), (7 : UInt8), (7 : UInt8), (7 : UInt8), (7 : UInt8), (7 : UInt8), (7 : UInt8), (7 : UInt8), (7 : UInt8), (7 : UInt8), (7 : UInt8), (7 : UInt8),
            (7 : UInt8), (7 : UInt8), (8 : UInt8), (8 : UInt8), (8 : UInt8), (8 : UInt8), (8 : UInt8), (8 : UInt8), (8 : UInt8), (8 : UInt8), (8 : UInt8), (8 : UInt8), (8 : UInt8), (8 : UInt8),
            (8 : UInt8), (8 : UInt8), (8 : UInt8), (8 : UInt8), (8 : UInt8), (8 : UInt8), (8 : UInt8), (8 : UInt8), (8 : UInt8), (8 : UInt8), (8 : UInt8), (8 : UInt8), (8 : UInt8), (8 : UInt8),
            (8 : UInt8), (8 : UInt8), (8 : UInt8), (8 : UInt8), (8 : UInt8), (8 : UInt8), (8 : UInt8), (8 : UInt8), (8 : UInt8), (8 : UInt8), (8 : UInt8), (8 : UInt8), (8 : UInt8), (8 : UInt8),
            (8 : UInt8), (8 : UInt8), (8 : UInt8), (8 : UInt8), (8 : UInt8), (8 : UInt8), (8 : UInt8), (8 : UInt8), (8 : UInt8), (8 : UInt8), (8 : UInt8), (8 : UInt8), (8 : UInt8), (8 : UInt8),
            (8 : UInt8), (8 : UInt8), (8 : UInt8), (8 : UInt8), (8 : UInt8), (8 : UInt8), (8 : UInt8), (8 : UInt8), (8 : UInt8), (8 : UInt8), (8 : UInt8), (8 : UInt8), (8 : UInt8), (8 : UInt8),
            (8 : UInt8), (8 : UInt8), (8 : UInt8), (8 : UInt8), (8 : UInt8), (8 : UInt8), (8 : UInt8), (8 : UInt8), (8 : UInt8), (8 : UInt8), (8 : UInt8), (8 : UInt8), (8 : UInt8), (8 : UInt8),
            (8 : UInt8), (8 : UInt8), (8 : UInt8), (8 : UInt8), (8 : UInt8), (8 : UInt8), (8 : UInt8), (8 : UInt8), (8 : UInt8), (8 : UInt8), (8 : UInt8), (8 : UInt8), (8 : UInt8), (8 : UInt8),
            (8 : UInt8), (8 : UInt8), (8 : UInt8), (8 : UInt8), (8 : UInt8), (8 : UInt8), (8 : UInt8), (8 : UInt8), (8 : UInt8), (8 : UInt8), (8 : UInt8), (8 : UInt8), (8 : UInt8), (8 : UInt8),
            (8 : UInt8), (8 : UInt8), (8 : UInt8), (8 : UInt8), (8 : UInt8), (8 : UInt8), (8 : UInt8), (8 : UInt8), (8 : UInt8), (8 : UInt8), (8 : UInt8), (8 : UInt8), (8 : UInt8), (8 : UInt8),
            (8 : UInt8), (8 : UInt8), (8 : UInt8), (8 : UInt8)]
          (Go.IntKind.wrap Go.IntKind.u8 x1.fst))
        fun x2 => Option.some (Go.IntKind.wrap Go.IntKind.i64 (x1.snd + Go.IntKind.wrap Go.IntKind.i64 (↑(UInt8.toNat x2) : Int)))
abbrev F62A : Pats := (.cons (.pd Y113) .nil)
abbrev F62R : Pats := (.cons (.pd Y3) .nil)
noncomputable def F62S : Tr.Spec := { args := F62A, res := F62R, fns := [], α := El Y3, f := fun x => F62 x.1, unp := fun z => (((), ()), (z, ())) }
noncomputable def F62E : Env := { ty := fun n => tyTab.lookup n, mty := fun n => mapTab.lookup n, pk := fun n => (pkTab.lookup n).getD 0, rw := fun n => [].contains n, specs := fun n => (([] : List (Nat × List Tr.Spec)).lookup n).getD [], nt := 19, ks := [] }
noncomputable def F62B : Code := match Try.f62.body with | some b => b | none => .skip
def F62H : Hint := (.seq .leaf (.seq (.seq .leaf (.cnd (some (⟨[], [], []⟩, [(.normal, ⟨[(0, (.pd Y113)), (2, (.pd Y3))], [], []⟩)])) .leaf .leaf)) (.seq (.seq .leaf (.cnd (some (⟨[], [], []⟩, [(.normal, ⟨[(0, (.pd Y113)), (2, (.pd Y3))], [], []⟩)])) .leaf .leaf)) .leaf)))
noncomputable def F62V (a0 : El Y113) : Option (El Y3) := evalF F62E F62B Try.f62.results F62H F62A F62R (fun y => y.2.1) (a0, ())
theorem F62_eq (a0 : El Y113) : F62V a0 = F62 a0 := by kernel_rfl
theorem F62_ok : FnOK Try.prog 62 F62S := evalF_ok (E := F62E) (fn := Try.f62) (body := F62B) (hint := F62H) (pack := fun y => y.2.1) hmix (typesOk_of tab_ok rfl rfl rfl) (specsOk_of (m := []) trivial rfl) (by kernel_rfl) (by kernel_rfl) (by kernel_rfl) (by kernel_rfl) (by kernel_rfl) (by kernel_rfl) (fun y => rfl)
  (fun x z h => (F62_eq x.1).trans h)
noncomputable def F63 : (El Y115) → Option (El Y3) := fun a0 =>
  Option.bind
    (bif Decidable.decide ((4294967296 : Int) ≤ a0) then Option.some (Int.fdiv a0 ((2 : Int) ^ Min.min (Int.toNat (32 : Int)) (Go.IntKind.bits Go.IntKind.u64)), (32 : Int))
    else Option.some (a0, (0 : Int)))
    fun x0 =>
    Option.bind
      (bif Decidable.decide ((65536 : Int) ≤ x0.fst) then
        Option.some (Int.fdiv x0.fst ((2 : Int) ^ Min.min (Int.toNat (16 : Int)) (Go.IntKind.bits Go.IntKind.u64)), Go.IntKind.wrap Go.IntKind.i64 (x0.snd + (16 : Int)))
      else Option.some (x0.fst, x0.snd))
      fun x1 =>
      Option.bind
        (bif Decidable.decide ((256 : Int) ≤ x1.fst) then
          Option.some (Int.fdiv x1.fst ((2 : Int) ^ Min.min (Int.toNat (8 : Int)) (Go.IntKind.bits Go.IntKind.u64)), Go.IntKind.wrap Go.IntKind.i64 (x1.snd + (8 : Int)))
        else Option.some (x1.fst, x1.snd))
        fun x2 =>
        Option.bind
          (Tr.idx
            [(0 : UInt8), (1 : UInt8), (2 : UInt8), (2 : UInt8), (3 : UInt8), (3 : UInt8), (3 : UInt8), (3 : UInt8), (4 : UInt8), (4 : UInt8), (4 : UInt8), (4 : UInt8), (4 : UInt8), (4 : UInt8),
              (4 : UInt8), (4 : UInt8), (5 : UInt8), (5 : UInt8), (5 : UInt8), (5 : UInt8), (5 : UInt8), (5 : UInt8), (5 : UInt8), (5 : UInt8), (5 : UInt8), (5 : UInt8), (5 : UInt8), (5 : UInt8),
              (5 : UInt8), (5 : UInt8), (5 : UInt8), (5 : UInt8), (6 : UInt8), (6 : UInt8), (6 : UInt8), (6 : UInt8), (6 : UInt8), (6 : UInt8), (6 : UInt8), (6 : UInt8), (6 : UInt8), (6 : UInt8),
              (6 : UInt8), (6 : UInt8), (6 : UInt8), (6 : UInt8), (6 : UInt8), (6 : UInt8), (6 : UInt8), (6 : UInt8), (6 : UInt8), (6 : UInt8), (6 : UInt8), (6 : UInt8), (6 : UInt8), (6 : UInt8),
              (6 : UInt8), (6 : UInt8), (6 : UInt8), (6 : UInt8), (6 : UInt8), (6 : UInt8), (6 : UInt8), (6 : UInt8), (7 : UInt8), (7 : UInt8), (7 : UInt8), (7 : UInt8), (7 : UInt8), (7 : UInt8),
              (7 : UInt8), (7 : UInt8), (7 : UInt8), (7 : UInt8), (7 : UInt8), (7 : UInt8), (7 : UInt8), (7 : UInt8), (7 : UInt8), (7 : UInt8), (7 : UInt8), (7 : UInt8), (7 : UInt8), (7 : UInt8),
              (7 : UInt8), (7 : UInt8), (7 : UInt8), (7 : UInt8), (7 : UInt8), (7 : UInt8), (7 : UInt8), (7 : UInt8), (7 : UInt8), (7 : UInt8), (7 : UInt8), (7 : UInt8), (7 : UInt8), (7 : UInt8),
              (7 : UInt8), (7 : UInt8), (7 : UInt8), (7 : UInt8), (7 : UInt8), (7 : UInt8), (7 : UInt8), (7 : UInt8), (7 : UInt8), (7 : UInt8), (7 : UInt8), (7 : UInt8), (7 : UInt8), (7 : UInt8),
              (7 : UInt8), (7 : UInt8), (7 : UInt8), (7 : UInt8), (7 : UInt8), (7 : UInt8), (7 : UInt8), (7 : UInt8), (7 : UInt8), (7 : UInt8), (7 : UInt8), (7 : UInt8), (7 : UInt8), (7 : UInt8),
              (7 : UInt8), (7 : UInt8), (8 : UInt8), (8 : UInt8), (8 : UInt8), (8 : UInt8), (8 : UInt8), (8 : UInt8), (8 : UInt8), (8 : UInt8), (8 : UInt8), (8 : UInt8), (8 : UInt8), (8 : UInt8),
              (8 : UInt8), (8 : UInt8), (8 : UInt8), (8 : UInt8), (8 : UInt8), (8 : UInt8), (8 : UInt8), (8 : UInt8), (8 : UInt8), (8 : UInt8), (8 : UInt8), (8 : UInt8), (8 : UInt8), (8 : UInt8),
              (8 : UInt8), (8 : UInt8), (8 : UInt8), (8 : UInt8), (8 : UInt8), (8 : UInt8), (8 : UInt8), (8 : UInt8), (8 : UInt8), (8 : UInt8), (8 : UInt8), (8 : UInt8), (8 : UInt8), (8 : UInt8),
              (8 : UInt8), (8 : UInt8), (8 : UInt8), (8 : UInt8), (8 : UInt8), (8 : UInt8), (8 : UInt8), (8 : UInt8), (8 : UInt8), (8 : UInt8), (8 : UInt8), (8 : UInt8), (8 : UInt8), (8 : UInt8),
              (8 : UInt8), (8 : UInt8), (8 : UInt8), (8 : UInt8), (8 : UInt8), (8 : UInt8), (8 : UInt8), (8 : UInt8), (8 : UInt8), (8 : UInt8), (8 : UInt8), (8 : UInt8), (8 : UInt8), (8 : UInt8),
              (8 : UInt8), (8 : UInt8), (8 : UInt8), (8 : UInt8), (8 : UInt8), (8 : UInt8), (8 : UInt8), (8 : UInt8), (8 : UInt8), (8 : UInt8), (8 : UInt8), (8 : UInt8), (8 : UInt8), (8 : UInt8),
              (8 : UInt8), (8 : UInt8), (8 : UInt8), (8 : UInt8), (8 : UInt8), (8 : UInt8), (8 : UInt8), (8 : UInt8), (8 : UInt8), (8 : UInt8), (8 : UInt8), (8 : UInt8), (8 : UInt8), (8 : UInt8),
              (8 : UInt8), (8 : UInt8), (8 : UInt8), (8 : UInt8), (8 : UInt8), (8 : UInt8), (8 : UInt8), (8 : UInt8), (8 : UInt8), (8 : UInt8), (8 : UInt8), (8 : UInt8), (8 : UInt8), (8 : UInt8),
              (8 : UInt8), (8 : UInt8), (8 : UInt8), (8 : UInt8), (8 : UInt8), (8 : UInt8), (8 : UInt8), (8 : UInt8), (8 : UInt8), (8 : UInt8), (8 : UInt8), (8 : UInt8), (8 : UInt8), (8 : UInt8),
              (8 : UInt8), (8 : UInt8), (8 : UInt8), (8 : UInt8)]
            (Go.IntKind.wrap Go.IntKind.u8 x2.fst))
          fun x3 => Option.some (Go.IntKind.wrap Go.IntKind.i64 (x2.snd + Go.IntKind.wrap Go.IntKind.i64 (↑(UInt8.toNat x3) : Int)))
abbrev F63A : Pats := (.cons (.pd Y115) .nil)
abbrev F63R : Pats := (.cons (.pd Y3) .nil)
noncomputable def F63S : Tr.Spec := { args := F63A, res := F63R, fns := [], α := El Y3, f := fun x => F63 x.1, unp := fun z => (((), ()), (z, ())) }
noncomputable def F63E : Env := { ty := fun n => tyTab.lookup n, mty := fun n => mapTab.lookup n, pk := fun n => (pkTab.lookup n).getD 0, rw := fun n => [].contains n, specs := fun n => (([] : List (Nat × List Tr.Spec)).lookup n).getD [], nt := 25, ks := [] }
noncomputable def F63B : Code := match Try.f63.body with | some b => b | none => .skip
def F63H : Hint := (.seq .leaf (.seq (.seq .leaf (.cnd (some (⟨[], [], []⟩, [(.normal, ⟨[(0, (.pd Y115)), (2, (.pd Y3))], [], []⟩)])) .leaf .leaf)) (.seq (.seq .leaf (.cnd (some (⟨[], [], []⟩, [(.normal, ⟨[(0, (.pd Y115)), (2, (.pd Y3))], [], []⟩)])) .leaf .leaf)) (.seq (.seq .leaf (.cnd (some (⟨[], [], []⟩, [(.normal, ⟨[(0, (.pd Y115)), (2, (.pd Y3))], [], []⟩)])) .leaf .leaf)) .leaf))))
noncomputable def F63V (a0 : El Y115) : Option (El Y3) := evalF F63E F63B Try.f63.results F63H F63A F63R (fun y => y.2.1) (a0, ())
theorem F63_eq (a0 : El Y115) : F63V a0 = F63 a0 := by kernel_rfl
theorem F63_ok : FnOK Try.prog 63 F63S := evalF_ok (E := F63E) (fn := Try.f63) (body := F63B) (hint := F63H) (pack := fun y => y.2.1) hmix (typesOk_of tab_ok rfl rfl rfl) (specsOk_of (m := []) trivial rfl) (by kernel_rfl) (by kernel_rfl) (by kernel_rfl) (by kernel_rfl) (by kernel_rfl) (by kernel_rfl) (fun y => rfl)
  (fun x z h => (F63_eq x.1).trans h)
noncomputable def F41 : (El Y79) → Option (El Y3) := fun a0 => Option.bind (F63 a0) fun x0 => Option.some x0
abbrev F41A : Pats := (.cons (.pd Y79) .nil)
abbrev F41R : Pats := (.cons (.pd Y3) .nil)
noncomputable def F41S : Tr.Spec := { args := F41A, res := F41R, fns := [], α := El Y3, f := fun x => F41 x.1, unp := fun z => (((), ()), (z, ())) }
noncomputable def F41E : Env := { ty := fun n => tyTab.lookup n, mty := fun n => mapTab.lookup n, pk := fun n => (pkTab.lookup n).getD 0, rw := fun n => [].contains n, specs := fun n => (([(62, [F62S]), (63, [F63S])] : List (Nat × List Tr.Spec)).lookup n).getD [], nt := 8, ks := [] }
noncomputable def F41B : Code := match Try.f41.body with | some b => b | none => .skip
def F41H : Hint := .leaf
noncomputable def F41V (a0 : El Y79) : Option (El Y3) := evalF F41E F41B Try.f41.results F41H F41A F41R (fun y => y.2.1) (a0, ())
theorem F41_eq (a0 : El Y79) : F41V a0 = F41 a0 := by kernel_rfl
theorem F41_ok : FnOK Try.prog 41 F41S := evalF_ok (E := F41E) (fn := Try.f41) (body := F41B) (hint := F41H) (pack := fun y => y.2.1) hmix (typesOk_of tab_ok rfl rfl rfl) (specsOk_of (m := [(62, [F62S]), (63, [F63S])]) ⟨⟨F62_ok, trivial⟩, ⟨F63_ok, trivial⟩, trivial⟩ rfl) (by kernel_rfl) (by kernel_rfl) (by kernel_rfl) (by kernel_rfl) (by kernel_rfl) (by kernel_rfl) (fun y => rfl)
  (fun x z h => (F41_eq x.1).trans h)
noncomputable def F87_76 : (List (El Y87)) → (El Y3) → (El Y3) → (Unit) → Option (List (El Y87)) := fun a0 a1 a2 a3 =>
  Option.bind
    (Tr.run
      (fun s0 =>
        bif Decidable.decide (s0.snd < a2) then
          Option.bind
            (Tr.run
              (fun s1 =>
                bif Decidable.decide (a1 < s1.snd) then
                  Option.bind (Tr.inb s1.snd (List.length s1.fst)) fun x2 =>
                    Option.bind s1.fst[x2]? fun x3 =>
                      Option.bind (Tr.inb (Go.IntKind.wrap Go.IntKind.i64 (s1.snd - (1 : Int))) (List.length s1.fst)) fun x4 =>
                        Option.bind s1.fst[x4]? fun x5 =>
                          Option.bind (F76 x3 x5) fun x6 =>
                            bif Decidable.decide (x6 < (0 : Int)) then
                              Option.bind (Tr.inb (Go.IntKind.wrap Go.IntKind.i64 (s1.snd - (1 : Int))) (List.length s1.fst)) fun x7 =>
                                Option.bind s1.fst[x7]? fun x8 =>
                                  Option.bind (Tr.inb s1.snd (List.length s1.fst)) fun x9 =>
                                    Option.bind s1.fst[x9]? fun x10 =>
                                      Option.bind (Tr.inb s1.snd (List.length s1.fst)) fun x11 =>
                                        Option.bind s1.fst[x11]? fun x12 =>
                                          Option.bind (Tr.inb (Go.IntKind.wrap Go.IntKind.i64 (s1.snd - (1 : Int))) (List.length (List.set s1.fst x11 x8))) fun x13 =>
                                            Option.bind (List.set s1.fst x11 x8)[x13]? fun x14 =>
                                              Option.some (Sum.inl (List.set (List.set s1.fst x11 x8) x13 x10, Go.IntKind.wrap Go.IntKind.i64 (s1.snd - (1 : Int))))
                            else Option.some (Sum.inr s1.fst)
                else Option.some (Sum.inr s1.fst))
              (s0.fst, s0.snd))
            fun x15 => Option.some (Sum.inl (x15, Go.IntKind.wrap Go.IntKind.i64 (s0.snd + (1 : Int))))
        else Option.some (Sum.inr s0.fst))
      (a0, Go.IntKind.wrap Go.IntKind.i64 (a1 + (1 : Int))))
    fun x16 => Option.some x16
abbrev F87_76A : Pats := (.cons (.own Y87 true) (.cons (.pd Y3) (.cons (.pd Y3) (.cons (.fn 76 .nil) .nil))))
abbrev F87_76R : Pats := .nil
noncomputable def F87_76S : Tr.Spec := { args := F87_76A, res := F87_76R, fns := [76], α := List (El Y87), f := fun x => F87_76 x.1 x.2.1 x.2.2.1 x.2.2.2.1, unp := fun z => ((z, (), (), (), ()), ()) }
noncomputable def F87_76E : Env := { ty := fun n => tyTab.lookup n, mty := fun n => mapTab.lookup n, pk := fun n => (pkTab.lookup n).getD 0, rw := fun n => [].contains n, specs := fun n => (([(76, [F76S])] : List (Nat × List Tr.Spec)).lookup n).getD [], nt := 53, ks := [] }
noncomputable def F87_76B : Code := match Try.f87.body with | some b => b | none => .skip
def F87_76H : Hint := (.seq .leaf (.lp ⟨[(0, (.own Y87 false)), (8, (.pd Y3))], [], [1, 2, 3]⟩ [((.exit 0), ⟨[(0, (.own Y87 false))], [], []⟩)] (.seq .leaf (.seq (.seq .leaf (.lp ⟨[(0, (.own Y87 false)), (9, (.pd Y3))], [], [1, 2, 3, 8]⟩ [((.exit 2), ⟨[(0, (.own Y87 false))], [], [1, 2, 3, 8]⟩)] .leaf)) .leaf))))
noncomputable def F87_76V (a0 : List (El Y87)) (a1 : El Y3) (a2 : El Y3) (a3 : Unit) : Option (List (El Y87)) := evalF F87_76E F87_76B Try.f87.results F87_76H F87_76A F87_76R (fun y => y.1.1) (a0, a1, a2, a3, ())
theorem F87_76_eq (a0 : List (El Y87)) (a1 : El Y3) (a2 : El Y3) (a3 : Unit) : F87_76V a0 a1 a2 a3 = F87_76 a0 a1 a2 a3 := by kernel_rfl
theorem F87_76_ok : FnOK Try.prog 87 F87_76S := evalF_ok (E := F87_76E) (fn := Try.f87) (body := F87_76B) (hint := F87_76H) (pack := fun y => y.1.1) hmix (typesOk_of tab_ok rfl rfl rfl) (specsOk_of (m := [(76, [F76S])]) ⟨⟨F76_ok, trivial⟩, trivial⟩ rfl) (by kernel_rfl) (by kernel_rfl) (by kernel_rfl) (by kernel_rfl) (by kernel_rfl) (by kernel_rfl) (fun y => rfl)
  (fun x z h => (F87_76_eq x.1 x.2.1 x.2.2.1 x.2.2.2.1).trans h)
noncomputable def F81_76 : (List (El Y87)) → (El Y3) → (El Y3) → (El Y3) → (Unit) → Option (List (El Y87)) := fun a0 a1 a2 a3 a4 =>
  Option.bind
    (Tr.run
      (fun s0 =>
        bif Decidable.decide (Go.IntKind.wrap Go.IntKind.i64 (s0.snd.snd.fst - s0.snd.fst) ≤ (12 : Int)) then
          Option.bind (F87_76 s0.fst s0.snd.fst s0.snd.snd.fst ()) fun x1 => Option.some (Sum.inr x1)
        else
          bif Decidable.decide (s0.snd.snd.snd.fst = (0 : Int)) then Option.none
          else Option.bind (bif !s0.snd.snd.snd.snd.fst then Option.none else Option.some s0.snd.snd.snd.fst) fun x2 => Option.none)
      (a0, a1, a2, a3, Bool.true, Bool.true))
    fun x3 => Option.some x3
abbrev F81_76A : Pats := (.cons (.own Y87 true) (.cons (.pd Y3) (.cons (.pd Y3) (.cons (.pd Y3) (.cons (.fn 76 .nil) .nil)))))
abbrev F81_76R : Pats := .nil
noncomputable def F81_76S : Tr.Spec := { args := F81_76A, res := F81_76R, fns := [76], α := List (El Y87), f := fun x => F81_76 x.1 x.2.1 x.2.2.1 x.2.2.2.1 x.2.2.2.2.1, unp := fun z => ((z, (), (), (), (), ()), ()) }
noncomputable def F81_76E : Env := { ty := fun n => tyTab.lookup n, mty := fun n => mapTab.lookup n, pk := fun n => (pkTab.lookup n).getD 0, rw := fun n => [].contains n, specs := fun n => (([(76, [F76S]), (87, [F87_76S])] : List (Nat × List Tr.Spec)).lookup n).getD [], nt := 148, ks := [] }
noncomputable def F81_76B : Code := match Try.f81.body with | some b => b | none => .skip
def F81_76H : Hint := (.seq .leaf (.seq .leaf (.lp ⟨[(0, (.own Y87 false)), (1, (.pd Y3)), (2, (.pd Y3)), (3, (.pd Y3)), (10, (.pd Y4)), (11, (.pd Y4))], [], [4]⟩ [(.ret, ⟨[(0, (.own Y87 false))], [], []⟩)] (.seq .leaf (.seq .leaf (.seq .leaf (.seq (.seq .leaf (.cnd (some (⟨[], [], [0, 1, 2, 4, 10, 11, 12]⟩, [(.normal, ⟨[(3, (.pd Y3))], [], [0, 1, 2, 4, 10, 11, 12]⟩)])) .leaf .leaf)) (.seq .leaf (.seq (.seq .leaf (.cnd (some (⟨[], [], [0, 1, 2, 3, 4, 10, 11, 12]⟩, [(.normal, ⟨[(13, (.pd Y3)), (14, (.pd Y106))], [], [0, 1, 2, 3, 4, 10, 11, 12]⟩)])) .leaf .leaf)) (.seq (.seq (.reg [(75, Y4)]) (.cnd (some (⟨[], [], [0, 1, 2, 3, 4, 10, 11, 12, 13]⟩, [(.normal, ⟨[], [], [0, 1, 2, 3, 4, 10, 11, 12, 13]⟩), (.ret, ⟨[], [], [0]⟩)])) .leaf .leaf)) .leaf))))))))))
noncomputable def F81_76V (a0 : List (El Y87)) (a1 : El Y3) (a2 : El Y3) (a3 : El Y3) (a4 : Unit) : Option (List (El Y87)) := evalF F81_76E F81_76B Try.f81.results F81_76H F81_76A F81_76R (fun y => y.1.1) (a0, a1, a2, a3, a4, ())
theorem F81_76_eq (a0 : List (El Y87)) (a1 : El Y3) (a2 : El Y3) (a3 : El Y3) (a4 : Unit) : F81_76V a0 a1 a2 a3 a4 = F81_76 a0 a1 a2 a3 a4 := by kernel_rfl
theorem F81_76_ok : FnOK Try.prog 81 F81_76S := evalF_ok (E := F81_76E) (fn := Try.f81) (body := F81_76B) (hint := F81_76H) (pack := fun y => y.1.1) hmix (typesOk_of tab_ok rfl rfl rfl) (specsOk_of (m := [(76, [F76S]), (87, [F87_76S])]) ⟨⟨F76_ok, trivial⟩, ⟨F87_76_ok, trivial⟩, trivial⟩ rfl) (by kernel_rfl) (by kernel_rfl) (by kernel_rfl) (by kernel_rfl) (by kernel_rfl) (by kernel_rfl) (fun y => rfl)
  (fun x z h => (F81_76_eq x.1 x.2.1 x.2.2.1 x.2.2.2.1 x.2.2.2.2.1).trans h)
noncomputable def F75_76 : (List (El Y87)) → (Unit) → Option (List (El Y87)) := fun a0 a1 => Option.bind (F41 (Go.IntKind.wrap Go.IntKind.u64 (↑(List.length a0) : Int))) fun x0 => Option.bind (F81_76 a0 (0 : Int) (↑(List.length a0) : Int) x0 ()) fun x1 => Option.some x1
abbrev F75_76A : Pats := (.cons (.own Y87 true) (.cons (.fn 76 .nil) .nil))
abbrev F75_76R : Pats := .nil
noncomputable def F75_76S : Tr.Spec := { args := F75_76A, res := F75_76R, fns := [76], α := List (El Y87), f := fun x => F75_76 x.1 x.2.1, unp := fun z => ((z, (), ()), ()) }
noncomputable def F75_76E : Env := { ty := fun n => tyTab.lookup n, mty := fun n => mapTab.lookup n, pk := fun n => (pkTab.lookup n).getD 0, rw := fun n => [].contains n, specs := fun n => (([(41, [F41S]), (76, [F76S]), (81, [F81_76S])] : List (Nat × List Tr.Spec)).lookup n).getD [], nt := 14, ks := [] }
noncomputable def F75_76B : Code := match Try.f75.body with | some b => b | none => .skip
def F75_76H : Hint := .leaf
noncomputable def F75_76V (a0 : List (El Y87)) (a1 : Unit) : Option (List (El Y87)) := evalF F75_76E F75_76B Try.f75.results F75_76H F75_76A F75_76R (fun y => y.1.1) (a0, a1, ())
theorem F75_76_eq (a0 : List (El Y87)) (a1 : Unit) : F75_76V a0 a1 = F75_76 a0 a1 := by kernel_rfl
theorem F75_76_ok : FnOK Try.prog 75 F75_76S := evalF_ok (E := F75_76E) (fn := Try.f75) (body := F75_76B) (hint := F75_76H) (pack := fun y => y.1.1) hmix (typesOk_of tab_ok rfl rfl rfl) (specsOk_of (m := [(41, [F41S]), (76, [F76S]), (81, [F81_76S])]) ⟨⟨F41_ok, trivial⟩, ⟨F76_ok, trivial⟩, ⟨F81_76_ok, trivial⟩, trivial⟩ rfl) (by kernel_rfl) (by kernel_rfl) (by kernel_rfl) (by kernel_rfl) (by kernel_rfl) (by kernel_rfl) (fun y => rfl)
  (fun x z h => (F75_76_eq x.1 x.2.1).trans h)
noncomputable def F67 : (El Y35) → (El Y3) → Option (El Y35) := fun a0 a1 =>
  Option.bind (F73 a0 a1 Bool.false) fun x0 =>
    Option.bind (F73 a0 a1 Bool.true) fun x1 =>
      Option.bind
        (Tr.run
          (fun s2 =>
            bif Decidable.decide (s2.snd < (↑(List.length x0) : Int)) then
              Option.bind (Tr.idx x0 s2.snd) fun x3 =>
                Option.bind
                  (Tr.run
                    (fun s4 =>
                      bif Decidable.decide (s4.snd < (↑(List.length x3) : Int)) then
                        Option.bind (Tr.idx x3 s4.snd) fun x5 =>
                          bif Decidable.decide (s2.snd = s4.snd) then Option.some (Sum.inl (s4.fst, Go.IntKind.wrap Go.IntKind.i64 (s4.snd + (1 : Int))))
                          else
                            Option.bind (Tr.idx x1 s2.snd) fun x6 =>
                              Option.bind (Tr.idx x6 s4.snd) fun x7 =>
                                Option.bind (F74 s2.snd s4.snd x5 (Decidable.decide (x7 = x5)) s4.fst) fun x8 =>
                                  bif !Decidable.decide (x7 = x5) then
                                    Option.bind (F74 s2.snd s4.snd x7 Bool.true x8) fun x9 => Option.some (Sum.inl (x9, Go.IntKind.wrap Go.IntKind.i64 (s4.snd + (1 : Int))))
                                  else Option.some (Sum.inl (x8, Go.IntKind.wrap Go.IntKind.i64 (s4.snd + (1 : Int))))
                      else Option.some (Sum.inr s4.fst))
                    (s2.fst, (0 : Int)))
                  fun x10 => Option.some (Sum.inl (x10, Go.IntKind.wrap Go.IntKind.i64 (s2.snd + (1 : Int))))
            else Option.some (Sum.inr s2.fst))
          ([], (0 : Int)))
        fun x11 => Option.bind (F75_76 x11 ()) fun x12 => Option.some x12
abbrev F67A : Pats := (.cons (.pd Y35) (.cons (.pd Y3) .nil))
abbrev F67R : Pats := (.cons (.pd Y35) .nil)
noncomputable def F67S : Tr.Spec := { args := F67A, res := F67R, fns := [], α := El Y35, f := fun x => F67 x.1 x.2.1, unp := fun z => (((), (), ()), (z, ())) }
noncomputable def F67E : Env := { ty := fun n => tyTab.lookup n, mty := fun n => mapTab.lookup n, pk := fun n => (pkTab.lookup n).getD 0, rw := fun n => [].contains n, specs := fun n => (([(73, [F73S]), (74, [F74S]), (75, [F75_76S]), (76, [F76S])] : List (Nat × List Tr.Spec)).lookup n).getD [], nt := 66, ks := [] }
noncomputable def F67B : Code := match Try.f67.body with | some b => b | none => .skip
def F67H : Hint := (.seq .leaf (.seq .leaf (.seq .leaf (.seq .leaf (.seq (.seq .leaf (.lp ⟨[(7, (.var Y35 (.own Y87 false))), (22, (.pd Y3))], [(8, 74, [7])], [5, 6, 21]⟩ [((.exit 0), ⟨[(7, (.var Y35 (.own Y87 false)))], [], []⟩)] (.seq .leaf (.seq .leaf (.seq (.seq .leaf (.seq .leaf (.lp ⟨[(7, (.var Y35 (.own Y87 false))), (30, (.pd Y3))], [(8, 74, [7])], [5, 6, 9, 21, 22, 28, 29]⟩ [((.exit 2), ⟨[(7, (.var Y35 (.own Y87 false)))], [(8, 74, [7])], [5, 6, 21, 22]⟩)] .leaf))) .leaf))))) .leaf)))))
noncomputable def F67V (a0 : El Y35) (a1 : El Y3) : Option (El Y35) := evalF F67E F67B Try.f67.results F67H F67A F67R (fun y => y.2.1) (a0, a1, ())
theorem F67_eq (a0 : El Y35) (a1 : El Y3) : F67V a0 a1 = F67 a0 a1 := by kernel_rfl
theorem F67_ok : FnOK Try.prog 67 F67S := evalF_ok (E := F67E) (fn := Try.f67) (body := F67B) (hint := F67H) (pack := fun y => y.2.1) hmix (typesOk_of tab_ok rfl rfl rfl) (specsOk_of (m := [(73, [F73S]), (74, [F74S]), (75, [F75_76S]), (76, [F76S])]) ⟨⟨F73_ok, trivial⟩, ⟨F74_ok, trivial⟩, ⟨F75_76_ok, trivial⟩, ⟨F76_ok, trivial⟩, trivial⟩ rfl) (by kernel_rfl) (by kernel_rfl) (by kernel_rfl) (by kernel_rfl) (by kernel_rfl) (by kernel_rfl) (fun y => rfl)
  (fun x z h => (F67_eq x.1 x.2.1).trans h)
noncomputable def F53 : (El Y35) → (El Y3) → Option (El Y4) := fun a0 a1 =>
  bif Decidable.decide ((64 : Int) < a1) then Option.some Bool.false
  else
    Option.bind (F66 a0 a1) fun x0 =>
      bif !Decidable.decide (x0.snd = (0 : Int)) then Option.some Bool.false
      else
        Option.bind (F67 a0 (Tr.imax a1 (0 : Int))) fun x1 =>
          bif !Decidable.decide ((↑(List.length x1) : Int) = (↑(List.length a0) : Int)) then Option.some Bool.false
          else
            Option.bind
              (Tr.run
                (fun s2 =>
                  bif Decidable.decide (s2 < (↑(List.length x1) : Int)) then
                    Option.bind (Tr.idx x1 s2) fun x3 =>
                      Option.bind (Tr.idx a0 s2) fun x4 =>
                        bif
                            !(Decidable.decide (x3.fst = x4.fst) &&
                                (Decidable.decide (x3.snd.fst = x4.snd.fst) && (Decidable.decide (x3.snd.snd.fst = x4.snd.snd.fst) && x3.snd.snd.snd.fst == x4.snd.snd.snd.fst))) then
                          Option.some (Sum.inr (Sum.inr Bool.false))
                        else Option.some (Sum.inl (Go.IntKind.wrap Go.IntKind.i64 (s2 + (1 : Int))))
                  else Option.some (Sum.inr (Sum.inl ())))
                (0 : Int))
              fun x5 => Sum.elim (fun y6 => Option.some Bool.true) (fun y7 => Option.some y7) x5
abbrev F53A : Pats := (.cons (.pd Y35) (.cons (.pd Y3) .nil))
abbrev F53R : Pats := (.cons (.pd Y4) .nil)
noncomputable def F53S : Tr.Spec := { args := F53A, res := F53R, fns := [], α := El Y4, f := fun x => F53 x.1 x.2.1, unp := fun z => (((), (), ()), (z, ())) }
noncomputable def F53E : Env := { ty := fun n => tyTab.lookup n, mty := fun n => mapTab.lookup n, pk := fun n => (pkTab.lookup n).getD 0, rw := fun n => [].contains n, specs := fun n => (([(66, [F66S]), (67, [F67S])] : List (Nat × List Tr.Spec)).lookup n).getD [], nt := 43, ks := [] }
noncomputable def F53B : Code := match Try.f53.body with | some b => b | none => .skip
def F53H : Hint := (.seq .leaf (.seq .leaf (.seq .leaf (.seq .leaf (.seq .leaf (.seq (.seq .leaf (.lp ⟨[(30, (.pd Y3))], [], [0, 7, 29]⟩ [((.exit 0), ⟨[], [], []⟩), (.ret, ⟨[(4, (.pd Y4))], [], []⟩)] .leaf)) .leaf))))))
noncomputable def F53V (a0 : El Y35) (a1 : El Y3) : Option (El Y4) := evalF F53E F53B Try.f53.results F53H F53A F53R (fun y => y.2.1) (a0, a1, ())
theorem F53_eq (a0 : El Y35) (a1 : El Y3) : F53V a0 a1 = F53 a0 a1 := by kernel_rfl
theorem F53_ok : FnOK Try.prog 53 F53S := evalF_ok (E := F53E) (fn := Try.f53) (body := F53B) (hint := F53H) (pack := fun y => y.2.1) hmix (typesOk_of tab_ok rfl rfl rfl) (specsOk_of (m := [(66, [F66S]), (67, [F67S])]) ⟨⟨F66_ok, trivial⟩, ⟨F67_ok, trivial⟩, trivial⟩ rfl) (by kernel_rfl) (by kernel_rfl) (by kernel_rfl) (by kernel_rfl) (by kernel_rfl) (by kernel_rfl) (fun y => rfl)
  (fun x z h => (F53_eq x.1 x.2.1).trans h)
noncomputable def F39 : (El Y40) → Option (El Y73) := fun a0 =>
  Option.bind
    (Tr.run
      (fun s0 =>
        bif Decidable.decide (s0.snd.snd < (↑(List.length a0.snd.snd.snd.snd.fst) : Int)) then
          Option.bind (Tr.idx a0.snd.snd.snd.snd.fst s0.snd.snd) fun x1 =>
            Option.bind
              (Option.bind (F50 x1.fst (↑(List.length a0.fst) : Int)) fun x2 =>
                bif !x2 then Option.some Bool.true
                else Option.bind (F50 x1.snd.fst (↑(List.length a0.fst) : Int)) fun x3 => bif !x3 then Option.some Bool.true else Option.some (Decidable.decide (x1.fst = x1.snd.fst)))
              fun x4 =>
              bif x4 then Option.bind (F35 (4 : Int) s0.snd.snd (9 : Int)) fun x5 => Option.some (Sum.inr (Sum.inr x5))
              else
                Option.bind (bif Decidable.decide (x1.snd.snd.fst < (1 : Int)) then Option.some Bool.true else Option.some (Decidable.decide ((14400 : Int) < x1.snd.snd.fst))) fun x6 =>
                  bif x6 then Option.bind (F35 (4 : Int) s0.snd.snd (2 : Int)) fun x7 => Option.some (Sum.inr (Sum.inr x7))
                  else
                    bif Option.getD (Tr.amGet (Tr.keyEq Y87) (x1.fst, x1.snd.fst, Tr.zeroEl Y3, x1.snd.snd.snd.fst, ()) s0.snd.fst) (Tr.zeroEl Y4) then
                      Option.bind (F35 (4 : Int) s0.snd.snd (6 : Int)) fun x8 => Option.some (Sum.inr (Sum.inr x8))
                    else
                      Option.some
                        (Sum.inl
                          (s0.fst, Tr.amSet (Tr.keyEq Y87) (x1.fst, x1.snd.fst, Tr.zeroEl Y3, x1.snd.snd.snd.fst, ()) Bool.true s0.snd.fst, Go.IntKind.wrap Go.IntKind.i64 (s0.snd.snd + (1 : Int))))
        else Option.some (Sum.inr (Sum.inl s0.fst)))
      (Tr.zeroEl Y73, [], (0 : Int)))
    fun x9 =>
    Sum.elim
      (fun y10 =>
        Option.bind (F53 a0.snd.snd.snd.snd.fst (↑(List.length a0.fst) : Int)) fun x11 =>
          bif !x11 then Option.bind (F35 (4 : Int) (0 : Int) (18 : Int)) fun x12 => Option.some x12 else Option.some (Tr.zeroEl Y3, Tr.zeroEl Y3, Tr.zeroEl Y42, ()))
      (fun y13 => Option.some y13) x9
abbrev F39A : Pats := (.cons (.pd Y40) .nil)
abbrev F39R : Pats := (.cons (.pd Y73) .nil)
noncomputable def F39S : Tr.Spec := { args := F39A, res := F39R, fns := [], α := El Y73, f := fun x => F39 x.1, unp := fun z => (((), ()), (z, ())) }
noncomputable def F39E : Env := { ty := fun n => tyTab.lookup n, mty := fun n => mapTab.lookup n, pk := fun n => (pkTab.lookup n).getD 0, rw := fun n => [].contains n, specs := fun n => (([(35, [F35S]), (50, [F50S]), (53, [F53S])] : List (Nat × List Tr.Spec)).lookup n).getD [], nt := 78, ks := [] }
noncomputable def F39B : Code := match Try.f39.body with | some b => b | none => .skip
def F39H : Hint := (.seq .leaf (.seq .leaf (.seq (.seq .leaf (.lp ⟨[(2, (.var Y73 (.pd Y73))), (3, (.map Y87 Y4)), (11, (.pd Y3))], [], [1, 9, 10]⟩ [((.exit 0), ⟨[(2, (.var Y73 (.pd Y73)))], [], [1]⟩), (.ret, ⟨[(2, (.var Y73 (.pd Y73)))], [], []⟩)] (.seq .leaf (.seq .leaf (.seq (.seq .leaf (.seq .leaf (.seq (.seq (.reg [(23, Y4)]) (.cnd none .leaf (.seq (.reg [(49, Y4)]) .leaf))) .leaf))) .leaf))))) .leaf)))
noncomputable def F39V (a0 : El Y40) : Option (El Y73) := evalF F39E F39B Try.f39.results F39H F39A F39R (fun y => y.2.1) (a0, ())
theorem F39_eq (a0 : El Y40) : F39V a0 = F39 a0 := by kernel_rfl
theorem F39_ok : FnOK Try.prog 39 F39S := evalF_ok (E := F39E) (fn := Try.f39) (body := F39B) (hint := F39H) (pack := fun y => y.2.1) hmix (typesOk_of tab_ok rfl rfl rfl) (specsOk_of (m := [(35, [F35S]), (50, [F50S]), (53, [F53S])]) ⟨⟨F35_ok, trivial⟩, ⟨F50_ok, trivial⟩, ⟨F53_ok, trivial⟩, trivial⟩ rfl) (by kernel_rfl) (by kernel_rfl) (by kernel_rfl) (by kernel_rfl) (by kernel_rfl) (by kernel_rfl) (fun y => rfl)
  (fun x z h => (F39_eq x.1).trans h)
noncomputable def F24 : (El Y40) → Option (El Y3 × El Y3 × El Y42) := fun a0 =>
  Option.bind (F32 a0.fst) fun x0 =>
    Option.bind (F33 a0.snd.fst) fun x1 =>
      Option.bind (F35 (0 : Int) x0.fst x0.snd) fun x2 =>
        Option.bind (F35 (1 : Int) x1.fst x1.snd) fun x3 =>
          Option.bind (F34 [x2, x3]) fun x4 =>
            Option.bind (bif Decidable.decide (x4.snd.snd.fst = (0 : Int)) then Option.bind (F36 a0) fun x5 => Option.some x5 else Option.some x4) fun x6 =>
              Option.bind (bif Decidable.decide (x6.snd.snd.fst = (0 : Int)) then Option.bind (F37 a0) fun x7 => Option.some x7 else Option.some x6) fun x8 =>
                Option.bind
                  (bif Decidable.decide (x8.snd.snd.fst = (0 : Int)) then
                    Option.bind (F38 a0.snd.snd.snd.snd.snd.fst) fun x9 =>
                      Option.bind (F39 a0) fun x10 => Option.bind (F35 (5 : Int) x9.fst x9.snd) fun x11 => Option.bind (F34 [x10, x11]) fun x12 => Option.some x12
                  else Option.some x8)
                  fun x13 => Option.some (x13.fst, x13.snd.fst, x13.snd.snd.fst)
abbrev F24A : Pats := (.cons (.pd Y40) .nil)
abbrev F24R : Pats := (.cons (.pd Y3) (.cons (.pd Y3) (.cons (.pd Y42) .nil)))
noncomputable def F24S : Tr.Spec := { args := F24A, res := F24R, fns := [], α := El Y3 × El Y3 × El Y42, f := fun x => F24 x.1, unp := fun z => (((), ()), (z.1, z.2.1, z.2.2, ())) }
noncomputable def F24E : Env := { ty := fun n => tyTab.lookup n, mty := fun n => mapTab.lookup n, pk := fun n => (pkTab.lookup n).getD 0, rw := fun n => [].contains n, specs := fun n => (([(32, [F32S]), (33, [F33S]), (34, [F34S]), (35, [F35S]), (36, [F36S]), (37, [F37S]), (38, [F38S]), (39, [F39S])] : List (Nat × List Tr.Spec)).lookup n).getD [], nt := 64, ks := [] }
noncomputable def F24B : Code := match Try.f24.body with | some b => b | none => .skip
def F24H : Hint := (.seq .leaf (.seq .leaf (.seq .leaf (.seq .leaf (.seq (.seq .leaf (.cnd (some (⟨[], [], [1]⟩, [(.normal, ⟨[(9, (.var Y73 (.pd Y73)))], [], [1]⟩)])) .leaf .leaf)) (.seq (.seq .leaf (.cnd (some (⟨[], [], [1]⟩, [(.normal, ⟨[(9, (.var Y73 (.pd Y73)))], [], [1]⟩)])) .leaf .leaf)) (.seq (.seq .leaf (.cnd (some (⟨[], [], []⟩, [(.normal, ⟨[(9, (.var Y73 (.pd Y73)))], [], []⟩)])) .leaf .leaf)) .leaf)))))))
noncomputable def F24V (a0 : El Y40) : Option (El Y3 × El Y3 × El Y42) := evalF F24E F24B Try.f24.results F24H F24A F24R (fun y => (y.2.1, y.2.2.1, y.2.2.2.1)) (a0, ())
theorem F24_eq (a0 : El Y40) : F24V a0 = F24 a0 := by kernel_rfl
theorem F24_ok : FnOK Try.prog 24 F24S := evalF_ok (E := F24E) (fn := Try.f24) (body := F24B) (hint := F24H) (pack := fun y => (y.2.1, y.2.2.1, y.2.2.2.1)) hmix (typesOk_of tab_ok rfl rfl rfl) (specsOk_of (m := [(32, [F32S]), (33, [F33S]), (34, [F34S]), (35, [F35S]), (36, [F36S]), (37, [F37S]), (38, [F38S]), (39, [F39S])]) ⟨⟨F32_ok, trivial⟩, ⟨F33_ok, trivial⟩, ⟨F34_ok, trivial⟩, ⟨F35_ok, trivial⟩, ⟨F36_ok, trivial⟩, ⟨F37_ok, trivial⟩, ⟨F38_ok, trivial⟩, ⟨F39_ok, trivial⟩, trivial⟩ rfl) (by kernel_rfl) (by kernel_rfl) (by kernel_rfl) (by kernel_rfl) (by kernel_rfl) (by kernel_rfl) (fun y => rfl)
  (fun x z h => (F24_eq x.1).trans h)
noncomputable def F54_7 : (List (El Y23)) → (El Y3) → (El Y3) → (Unit) → Option (List (El Y23)) := fun a0 a1 a2 a3 =>
  Option.bind
    (Tr.run
      (fun s0 =>
        bif Decidable.decide (s0.snd < a2) then
          Option.bind
            (Tr.run
              (fun s1 =>
                bif Decidable.decide (a1 < s1.snd) then
                  Option.bind (Tr.inb s1.snd (List.length s1.fst)) fun x2 =>
                    Option.bind s1.fst[x2]? fun x3 =>
                      Option.bind (Tr.inb (Go.IntKind.wrap Go.IntKind.i64 (s1.snd - (1 : Int))) (List.length s1.fst)) fun x4 =>
                        Option.bind s1.fst[x4]? fun x5 =>
                          Option.bind (F7 x3 x5) fun x6 =>
                            bif Decidable.decide (x6 < (0 : Int)) then
                              Option.bind (Tr.inb (Go.IntKind.wrap Go.IntKind.i64 (s1.snd - (1 : Int))) (List.length s1.fst)) fun x7 =>
                                Option.bind s1.fst[x7]? fun x8 =>
                                  Option.bind (Tr.inb s1.snd (List.length s1.fst)) fun x9 =>
                                    Option.bind s1.fst[x9]? fun x10 =>
                                      Option.bind (Tr.inb s1.snd (List.length s1.fst)) fun x11 =>
                                        Option.bind s1.fst[x11]? fun x12 =>
                                          Option.bind (Tr.inb (Go.IntKind.wrap Go.IntKind.i64 (s1.snd - (1 : Int))) (List.length (List.set s1.fst x11 x8))) fun x13 =>
                                            Option.bind (List.set s1.fst x11 x8)[x13]? fun x14 =>
                                              Option.some (Sum.inl (List.set (List.set s1.fst x11 x8) x13 x10, Go.IntKind.wrap Go.IntKind.i64 (s1.snd - (1 : Int))))
                            else Option.some (Sum.inr s1.fst)
                else Option.some (Sum.inr s1.fst))
              (s0.fst, s0.snd))
            fun x15 => Option.some (Sum.inl (x15, Go.IntKind.wrap Go.IntKind.i64 (s0.snd + (1 : Int))))
        else Option.some (Sum.inr s0.fst))
      (a0, Go.IntKind.wrap Go.IntKind.i64 (a1 + (1 : Int))))
    fun x16 => Option.some x16
abbrev F54_7A : Pats := (.cons (.own Y23 true) (.cons (.pd Y3) (.cons (.pd Y3) (.cons (.fn 7 .nil) .nil))))
abbrev F54_7R : Pats := .nil
noncomputable def F54_7S : Tr.Spec := { args := F54_7A, res := F54_7R, fns := [7], α := List (El Y23), f := fun x => F54_7 x.1 x.2.1 x.2.2.1 x.2.2.2.1, unp := fun z => ((z, (), (), (), ()), ()) }
noncomputable def F54_7E : Env := { ty := fun n => tyTab.lookup n, mty := fun n => mapTab.lookup n, pk := fun n => (pkTab.lookup n).getD 0, rw := fun n => [].contains n, specs := fun n => (([(7, [F7S])] : List (Nat × List Tr.Spec)).lookup n).getD [], nt := 53, ks := [] }
noncomputable def F54_7B : Code := match Try.f54.body with | some b => b | none => .skip
def F54_7H : Hint := (.seq .leaf (.lp ⟨[(0, (.own Y23 false)), (8, (.pd Y3))], [], [1, 2, 3]⟩ [((.exit 0), ⟨[(0, (.own Y23 false))], [], []⟩)] (.seq .leaf (.seq (.seq .leaf (.lp ⟨[(0, (.own Y23 false)), (9, (.pd Y3))], [], [1, 2, 3, 8]⟩ [((.exit 2), ⟨[(0, (.own Y23 false))], [], [1, 2, 3, 8]⟩)] .leaf)) .leaf))))
noncomputable def F54_7V (a0 : List (El Y23)) (a1 : El Y3) (a2 : El Y3) (a3 : Unit) : Option (List (El Y23)) := evalF F54_7E F54_7B Try.f54.results F54_7H F54_7A F54_7R (fun y => y.1.1) (a0, a1, a2, a3, ())
theorem F54_7_eq (a0 : List (El Y23)) (a1 : El Y3) (a2 : El Y3) (a3 : Unit) : F54_7V a0 a1 a2 a3 = F54_7 a0 a1 a2 a3 := by kernel_rfl
theorem F54_7_ok : FnOK Try.prog 54 F54_7S := evalF_ok (E := F54_7E) (fn := Try.f54) (body := F54_7B) (hint := F54_7H) (pack := fun y => y.1.1) hmix (typesOk_of tab_ok rfl rfl rfl) (specsOk_of (m := [(7, [F7S])]) ⟨⟨F7_ok, trivial⟩, trivial⟩ rfl) (by kernel_rfl) (by kernel_rfl) (by kernel_rfl) (by kernel_rfl) (by kernel_rfl) (by kernel_rfl) (fun y => rfl)
  (fun x z h => (F54_7_eq x.1 x.2.1 x.2.2.1 x.2.2.2.1).trans h)
noncomputable def F40_7 : (List (El Y23)) → (El Y3) → (El Y3) → (El Y3) → (Unit) → Option (List (El Y23)) := fun a0 a1 a2 a3 a4 =>
  Option.bind
    (Tr.run
      (fun s0 =>
        bif Decidable.decide (Go.IntKind.wrap Go.IntKind.i64 (s0.snd.snd.fst - s0.snd.fst) ≤ (12 : Int)) then Option.bind (F54_7 s0.fst s0.snd.fst s0.snd.snd.fst ()) fun x1 => Option.some (Sum.inr x1)
        else
          bif Decidable.decide (s0.snd.snd.snd.fst = (0 : Int)) then Option.none
          else Option.bind (bif !s0.snd.snd.snd.snd.fst then Option.none else Option.some s0.snd.snd.snd.fst) fun x2 => Option.none)
      (a0, a1, a2, a3, Bool.true, Bool.true))
    fun x3 => Option.some x3
abbrev F40_7A : Pats := (.cons (.own Y23 true) (.cons (.pd Y3) (.cons (.pd Y3) (.cons (.pd Y3) (.cons (.fn 7 .nil) .nil)))))
abbrev F40_7R : Pats := .nil
noncomputable def F40_7S : Tr.Spec := { args := F40_7A, res := F40_7R, fns := [7], α := List (El Y23), f := fun x => F40_7 x.1 x.2.1 x.2.2.1 x.2.2.2.1 x.2.2.2.2.1, unp := fun z => ((z, (), (), (), (), ()), ()) }
noncomputable def F40_7E : Env := { ty := fun n => tyTab.lookup n, mty := fun n => mapTab.lookup n, pk := fun n => (pkTab.lookup n).getD 0, rw := fun n => [].contains n, specs := fun n => (([(7, [F7S]), (54, [F54_7S])] : List (Nat × List Tr.Spec)).lookup n).getD [], nt := 148, ks := [] }
noncomputable def F40_7B : Code := match Try.f40.body with | some b => b | none => .skip
def F40_7H : Hint := (.seq .leaf (.seq .leaf (.lp ⟨[(0, (.own Y23 false)), (1, (.pd Y3)), (2, (.pd Y3)), (3, (.pd Y3)), (10, (.pd Y4)), (11, (.pd Y4))], [], [4]⟩ [(.ret, ⟨[(0, (.own Y23 false))], [], []⟩)] (.seq .leaf (.seq .leaf (.seq .leaf (.seq (.seq .leaf (.cnd (some (⟨[], [], [0, 1, 2, 4, 10, 11, 12]⟩, [(.normal, ⟨[(3, (.pd Y3))], [], [0, 1, 2, 4, 10, 11, 12]⟩)])) .leaf .leaf)) (.seq .leaf (.seq (.seq .leaf (.cnd (some (⟨[], [], [0, 1, 2, 3, 4, 10, 11, 12]⟩, [(.normal, ⟨[(13, (.pd Y3)), (14, (.pd Y106))], [], [0, 1, 2, 3, 4, 10, 11, 12]⟩)])) .leaf .leaf)) (.seq (.seq (.reg [(75, Y4)]) (.cnd (some (⟨[], [], [0, 1, 2, 3, 4, 10, 11, 12, 13]⟩, [(.normal, ⟨[], [], [0, 1, 2, 3, 4, 10, 11, 12, 13]⟩), (.ret, ⟨[], [], [0]⟩)])) .leaf .leaf)) .leaf))))))))))
noncomputable def F40_7V (a0 : List (El Y23)) (a1 : El Y3) (a2 : El Y3) (a3 : El Y3) (a4 : Unit) : Option (List (El Y23)) := evalF F40_7E F40_7B Try.f40.results F40_7H F40_7A F40_7R (fun y => y.1.1) (a0, a1, a2, a3, a4, ())
theorem F40_7_eq (a0 : List (El Y23)) (a1 : El Y3) (a2 : El Y3) (a3 : El Y3) (a4 : Unit) : F40_7V a0 a1 a2 a3 a4 = F40_7 a0 a1 a2 a3 a4 := by kernel_rfl
theorem F40_7_ok : FnOK Try.prog 40 F40_7S := evalF_ok (E := F40_7E) (fn := Try.f40) (body := F40_7B) (hint := F40_7H) (pack := fun y => y.1.1) hmix (typesOk_of tab_ok rfl rfl rfl) (specsOk_of (m := [(7, [F7S]), (54, [F54_7S])]) ⟨⟨F7_ok, trivial⟩, ⟨F54_7_ok, trivial⟩, trivial⟩ rfl) (by kernel_rfl) (by kernel_rfl) (by kernel_rfl) (by kernel_rfl) (by kernel_rfl) (by kernel_rfl) (fun y => rfl)
  (fun x z h => (F40_7_eq x.1 x.2.1 x.2.2.1 x.2.2.2.1 x.2.2.2.2.1).trans h)
noncomputable def F25_7 : (List (El Y23)) → (Unit) → Option (List (El Y23)) := fun a0 a1 => Option.bind (F41 (Go.IntKind.wrap Go.IntKind.u64 (↑(List.length a0) : Int))) fun x0 => Option.bind (F40_7 a0 (0 : Int) (↑(List.length a0) : Int) x0 ()) fun x1 => Option.some x1
abbrev F25_7A : Pats := (.cons (.own Y23 true) (.cons (.fn 7 .nil) .nil))
abbrev F25_7R : Pats := .nil
noncomputable def F25_7S : Tr.Spec := { args := F25_7A, res := F25_7R, fns := [7], α := List (El Y23), f := fun x => F25_7 x.1 x.2.1, unp := fun z => ((z, (), ()), ()) }
noncomputable def F25_7E : Env := { ty := fun n => tyTab.lookup n, mty := fun n => mapTab.lookup n, pk := fun n => (pkTab.lookup n).getD 0, rw := fun n => [].contains n, specs := fun n => (([(7, [F7S]), (40, [F40_7S]), (41, [F41S])] : List (Nat × List Tr.Spec)).lookup n).getD [], nt := 14, ks := [] }
noncomputable def F25_7B : Code := match Try.f25.body with | some b => b | none => .skip
def F25_7H : Hint := .leaf
noncomputable def F25_7V (a0 : List (El Y23)) (a1 : Unit) : Option (List (El Y23)) := evalF F25_7E F25_7B Try.f25.results F25_7H F25_7A F25_7R (fun y => y.1.1) (a0, a1, ())
theorem F25_7_eq (a0 : List (El Y23)) (a1 : Unit) : F25_7V a0 a1 = F25_7 a0 a1 := by kernel_rfl
theorem F25_7_ok : FnOK Try.prog 25 F25_7S := evalF_ok (E := F25_7E) (fn := Try.f25) (body := F25_7B) (hint := F25_7H) (pack := fun y => y.1.1) hmix (typesOk_of tab_ok rfl rfl rfl) (specsOk_of (m := [(7, [F7S]), (40, [F40_7S]), (41, [F41S])]) ⟨⟨F7_ok, trivial⟩, ⟨F40_7_ok, trivial⟩, ⟨F41_ok, trivial⟩, trivial⟩ rfl) (by kernel_rfl) (by kernel_rfl) (by kernel_rfl) (by kernel_rfl) (by kernel_rfl) (by kernel_rfl) (fun y => rfl)
  (fun x z h => (F25_7_eq x.1 x.2.1).trans h)
noncomputable def F17 : (El Y40) → Option (El Y27 × El Y42) := fun a0 =>
  Option.bind (F24 a0) fun x0 =>
    bif !Decidable.decide (x0.snd.snd = (0 : Int)) then Option.some ([], (21 : Int))
    else
      Option.bind
        (Tr.run
          (fun s1 =>
            bif Decidable.decide (s1.snd < (↑(List.length a0.snd.snd.fst) : Int)) then
              Option.bind (Tr.idx a0.snd.snd.fst s1.snd) fun x2 =>
                bif x2.snd.snd.snd.snd.snd.snd.fst then Option.some (Sum.inl (s1.fst, Go.IntKind.wrap Go.IntKind.i64 (s1.snd + (1 : Int))))
                else
                  Option.bind
                    (Tr.run
                      (fun s3 =>
                        bif Decidable.decide (s3.snd < Go.IntKind.wrap Go.IntKind.i64 ((↑(List.length x2.snd.snd.snd.snd.snd.snd.snd.fst) : Int) - (1 : Int))) then
                          Option.bind (Tr.idx x2.snd.snd.snd.snd.snd.snd.snd.fst s3.snd) fun x4 =>
                            Option.bind (Tr.idx x2.snd.snd.snd.snd.snd.snd.snd.fst (Go.IntKind.wrap Go.IntKind.i64 (s3.snd + (1 : Int)))) fun x5 =>
                              Option.bind (Tr.guardB (Decidable.decide (List.length s3.fst + List.length [(s1.snd, s3.snd, x4.fst, x5.fst, x4.snd.snd.fst, x5.snd.fst, ())] ≤ Tr.maxApp))) fun x6 =>
                                Option.some (Sum.inl (s3.fst ++ [(s1.snd, s3.snd, x4.fst, x5.fst, x4.snd.snd.fst, x5.snd.fst, ())], Go.IntKind.wrap Go.IntKind.i64 (s3.snd + (1 : Int))))
                        else Option.some (Sum.inr s3.fst))
                      (s1.fst, (0 : Int)))
                    fun x7 => Option.some (Sum.inl (x7, Go.IntKind.wrap Go.IntKind.i64 (s1.snd + (1 : Int))))
            else Option.some (Sum.inr s1.fst))
          ([], (0 : Int)))
        fun x8 => Option.bind (F25_7 x8 ()) fun x9 => Option.some (x9, (0 : Int))
abbrev F17A : Pats := (.cons (.pd Y40) .nil)
abbrev F17R : Pats := (.cons (.pd Y27) (.cons (.pd Y42) .nil))
noncomputable def F17S : Tr.Spec := { args := F17A, res := F17R, fns := [], α := El Y27 × El Y42, f := fun x => F17 x.1, unp := fun z => (((), ()), (z.1, z.2, ())) }
noncomputable def F17E : Env := { ty := fun n => tyTab.lookup n, mty := fun n => mapTab.lookup n, pk := fun n => (pkTab.lookup n).getD 0, rw := fun n => [].contains n, specs := fun n => (([(7, [F7S]), (24, [F24S]), (25, [F25_7S])] : List (Nat × List Tr.Spec)).lookup n).getD [], nt := 68, ks := [] }
noncomputable def F17B : Code := match Try.f17.body with | some b => b | none => .skip
def F17H : Hint := (.seq .leaf (.seq .leaf (.seq .leaf (.seq .leaf (.seq .leaf (.seq (.seq .leaf (.lp ⟨[(7, (.own Y23 false)), (24, (.pd Y3))], [], [22, 23]⟩ [((.exit 0), ⟨[(7, (.own Y23 false))], [], []⟩)] (.seq .leaf (.seq .leaf (.seq (.seq .leaf (.seq .leaf (.seq .leaf (.lp ⟨[(7, (.own Y23 false)), (35, (.pd Y3))], [], [8, 9, 22, 23, 24, 34]⟩ [((.exit 2), ⟨[(7, (.own Y23 false))], [], [22, 23, 24]⟩)] .leaf)))) .leaf))))) .leaf))))))
noncomputable def F17V (a0 : El Y40) : Option (El Y27 × El Y42) := evalF F17E F17B Try.f17.results F17H F17A F17R (fun y => (y.2.1, y.2.2.1)) (a0, ())
theorem F17_eq (a0 : El Y40) : F17V a0 = F17 a0 := by kernel_rfl
theorem F17_ok : FnOK Try.prog 17 F17S := evalF_ok (E := F17E) (fn := Try.f17) (body := F17B) (hint := F17H) (pack := fun y => (y.2.1, y.2.2.1)) hmix (typesOk_of tab_ok rfl rfl rfl) (specsOk_of (m := [(7, [F7S]), (24, [F24S]), (25, [F25_7S])]) ⟨⟨F7_ok, trivial⟩, ⟨F24_ok, trivial⟩, ⟨F25_7_ok, trivial⟩, trivial⟩ rfl) (by kernel_rfl) (by kernel_rfl) (by kernel_rfl) (by kernel_rfl) (by kernel_rfl) (by kernel_rfl) (fun y => rfl)
  (fun x z h => (F17_eq x.1).trans h)
noncomputable def F18 : Option (El Y40) := Option.some
  ([([(97 : UInt8)], Tr.zeroEl Y3, Tr.zeroEl Y4, Tr.zeroEl Y3, ()), ([(98 : UInt8)], Tr.zeroEl Y3, Tr.zeroEl Y4, Tr.zeroEl Y3, ()), ([(99 : UInt8)], Tr.zeroEl Y3, Tr.zeroEl Y4, Tr.zeroEl Y3, ())],
    [([(114 : UInt8)], Tr.zeroEl Y3, Tr.zeroEl Y4, ())],
    [(Tr.zeroEl Y3, Tr.zeroEl Y3, Tr.zeroEl Y3, [(120 : UInt8)], Tr.zeroEl Y3, Tr.zeroEl Y4, Tr.zeroEl Y4,
        [((0 : Int), (90 : Int), (100 : Int), Tr.zeroEl Y4, Tr.zeroEl Y4, ()), ((1 : Int), (160 : Int), (160 : Int), Tr.zeroEl Y4, Tr.zeroEl Y4, ()),
          ((2 : Int), (220 : Int), (220 : Int), Tr.zeroEl Y4, Tr.zeroEl Y4, ())],
        ()),
      (Tr.zeroEl Y3, Tr.zeroEl Y3, Tr.zeroEl Y3, [(121 : UInt8)], Tr.zeroEl Y3, Tr.zeroEl Y4, Tr.zeroEl Y4,
        [((1 : Int), (100 : Int), (100 : Int), Tr.zeroEl Y4, Tr.zeroEl Y4, ()), ((0 : Int), (150 : Int), (150 : Int), Tr.zeroEl Y4, Tr.zeroEl Y4, ())], ())],
    Tr.zeroEl Y34, Tr.zeroEl Y35, Tr.zeroEl Y38, ())
abbrev F18A : Pats := .nil
abbrev F18R : Pats := (.cons (.pd Y40) .nil)
noncomputable def F18S : Tr.Spec := { args := F18A, res := F18R, fns := [], α := El Y40, f := fun x => F18, unp := fun z => ((), (z, ())) }
noncomputable def F18E : Env := { ty := fun n => tyTab.lookup n, mty := fun n => mapTab.lookup n, pk := fun n => (pkTab.lookup n).getD 0, rw := fun n => [].contains n, specs := fun n => (([] : List (Nat × List Tr.Spec)).lookup n).getD [], nt := 18, ks := [] }
noncomputable def F18B : Code := match Try.f18.body with | some b => b | none => .skip
def F18H : Hint := .leaf
noncomputable def F18V : Option (El Y40) := evalF F18E F18B Try.f18.results F18H F18A F18R (fun y => y.2.1) (())
theorem F18_eq  : F18V  = F18  := by kernel_rfl
theorem F18_ok : FnOK Try.prog 18 F18S := evalF_ok (E := F18E) (fn := Try.f18) (body := F18B) (hint := F18H) (pack := fun y => y.2.1) hmix (typesOk_of tab_ok rfl rfl rfl) (specsOk_of (m := []) trivial rfl) (by kernel_rfl) (by kernel_rfl) (by kernel_rfl) (by kernel_rfl) (by kernel_rfl) (by kernel_rfl) (fun y => rfl)
  (fun x z h => (F18_eq ).trans h)
noncomputable def F19 : (El Y27) → (El Y27) → Option (El Y4) := fun a0 a1 =>
  bif !Decidable.decide ((↑(List.length a0) : Int) = (↑(List.length a1) : Int)) then Option.some Bool.false
  else
    Option.bind
      (Tr.run
        (fun s0 =>
          bif Decidable.decide (s0 < (↑(List.length a0) : Int)) then
            Option.bind (Tr.idx a0 s0) fun x1 =>
              Option.bind (Tr.idx a1 s0) fun x2 =>
                bif
                    !(Decidable.decide (x1.fst = x2.fst) &&
                        (Decidable.decide (x1.snd.fst = x2.snd.fst) &&
                          (Decidable.decide (x1.snd.snd.fst = x2.snd.snd.fst) &&
                            (Decidable.decide (x1.snd.snd.snd.fst = x2.snd.snd.snd.fst) &&
                              (Decidable.decide (x1.snd.snd.snd.snd.fst = x2.snd.snd.snd.snd.fst) && Decidable.decide (x1.snd.snd.snd.snd.snd.fst = x2.snd.snd.snd.snd.snd.fst)))))) then
                  Option.some (Sum.inr (Sum.inr Bool.false))
                else Option.some (Sum.inl (Go.IntKind.wrap Go.IntKind.i64 (s0 + (1 : Int))))
          else Option.some (Sum.inr (Sum.inl ())))
        (0 : Int))
      fun x3 => Sum.elim (fun y4 => Option.some Bool.true) (fun y5 => Option.some y5) x3
abbrev F19A : Pats := (.cons (.pd Y27) (.cons (.pd Y27) .nil))
abbrev F19R : Pats := (.cons (.pd Y4) .nil)
noncomputable def F19S : Tr.Spec := { args := F19A, res := F19R, fns := [], α := El Y4, f := fun x => F19 x.1 x.2.1, unp := fun z => (((), (), ()), (z, ())) }
noncomputable def F19E : Env := { ty := fun n => tyTab.lookup n, mty := fun n => mapTab.lookup n, pk := fun n => (pkTab.lookup n).getD 0, rw := fun n => [].contains n, specs := fun n => (([] : List (Nat × List Tr.Spec)).lookup n).getD [], nt := 26, ks := [] }
noncomputable def F19B : Code := match Try.f19.body with | some b => b | none => .skip
def F19H : Hint := (.seq .leaf (.seq .leaf (.seq (.seq .leaf (.lp ⟨[(5, (.pd Y3))], [], [0, 1]⟩ [((.exit 0), ⟨[], [], []⟩), (.ret, ⟨[(4, (.pd Y4))], [], []⟩)] .leaf)) .leaf)))
noncomputable def F19V (a0 : El Y27) (a1 : El Y27) : Option (El Y4) := evalF F19E F19B Try.f19.results F19H F19A F19R (fun y => y.2.1) (a0, a1, ())
theorem F19_eq (a0 : El Y27) (a1 : El Y27) : F19V a0 a1 = F19 a0 a1 := by kernel_rfl
theorem F19_ok : FnOK Try.prog 19 F19S := evalF_ok (E := F19E) (fn := Try.f19) (body := F19B) (hint := F19H) (pack := fun y => y.2.1) hmix (typesOk_of tab_ok rfl rfl rfl) (specsOk_of (m := []) trivial rfl) (by kernel_rfl) (by kernel_rfl) (by kernel_rfl) (by kernel_rfl) (by kernel_rfl) (by kernel_rfl) (fun y => rfl)
  (fun x z h => (F19_eq x.1 x.2.1).trans h)
noncomputable def F9 : Option (El Y4) := Option.bind F18 fun x0 =>
  Option.bind (F17 x0) fun x1 =>
    Option.bind
      (F17
        (Tr.zeroEl Y31, Tr.zeroEl Y32, [(Tr.zeroEl Y3, Tr.zeroEl Y3, Tr.zeroEl Y3, Tr.zeroEl Y9, Tr.zeroEl Y3, Tr.zeroEl Y4, Tr.zeroEl Y4, Tr.zeroEl Y46, ())], Tr.zeroEl Y34, Tr.zeroEl Y35,
          Tr.zeroEl Y38, ()))
      fun x2 =>
      Option.bind
        (bif Decidable.decide (x1.snd = (0 : Int)) then
          Option.bind
            (F19 x1.fst
              [((1 : Int), Tr.zeroEl Y3, (1 : Int), (0 : Int), (100 : Int), (150 : Int), ()), (Tr.zeroEl Y3, Tr.zeroEl Y3, (0 : Int), (1 : Int), (100 : Int), (160 : Int), ()),
                (Tr.zeroEl Y3, (1 : Int), (1 : Int), (2 : Int), (160 : Int), (220 : Int), ())])
            fun x3 =>
            bif x3 then
              bif Decidable.decide (x2.snd = (21 : Int)) then
                Option.bind (F10 x1.fst (100 : Int)) fun x4 =>
                  bif Decidable.decide (x4 = (0 : Int)) then
                    Option.bind (F11 x1.fst (100 : Int)) fun x5 =>
                      bif Decidable.decide (x5 = (2 : Int)) then
                        Option.bind (F10 x1.fst (101 : Int)) fun x6 =>
                          bif Decidable.decide (x6 = (2 : Int)) then
                            Option.bind
                              (F7 ((1 : Int), Tr.zeroEl Y3, (1 : Int), (0 : Int), (100 : Int), (150 : Int), ()) (Tr.zeroEl Y3, Tr.zeroEl Y3, (0 : Int), (1 : Int), (100 : Int), (160 : Int), ()))
                              fun x7 => Option.some (Decidable.decide (x7 = (-1 : Int)))
                          else Option.some Bool.false
                      else Option.some Bool.false
                  else Option.some Bool.false
              else Option.some Bool.false
            else Option.some Bool.false
        else Option.some Bool.false)
        fun x8 => Option.some x8
abbrev F9A : Pats := .nil
abbrev F9R : Pats := (.cons (.pd Y4) .nil)
noncomputable def F9S : Tr.Spec := { args := F9A, res := F9R, fns := [], α := El Y4, f := fun x => F9, unp := fun z => ((), (z, ())) }
noncomputable def F9E : Env := { ty := fun n => tyTab.lookup n, mty := fun n => mapTab.lookup n, pk := fun n => (pkTab.lookup n).getD 0, rw := fun n => [].contains n, specs := fun n => (([(7, [F7S]), (10, [F10S]), (11, [F11S]), (17, [F17S]), (18, [F18S]), (19, [F19S])] : List (Nat × List Tr.Spec)).lookup n).getD [], nt := 58, ks := [] }
noncomputable def F9B : Code := match Try.f9.body with | some b => b | none => .skip
def F9H : Hint := (.seq .leaf (.seq .leaf (.seq .leaf (.seq .leaf (.seq (.reg [(0, Y4)]) .leaf)))))
noncomputable def F9V : Option (El Y4) := evalF F9E F9B Try.f9.results F9H F9A F9R (fun y => y.2.1) (())
theorem F9_eq  : F9V  = F9  := by kernel_rfl
theorem F9_ok : FnOK Try.prog 9 F9S := evalF_ok (E := F9E) (fn := Try.f9) (body := F9B) (hint := F9H) (pack := fun y => y.2.1) hmix (typesOk_of tab_ok rfl rfl rfl) (specsOk_of (m := [(7, [F7S]), (10, [F10S]), (11, [F11S]), (17, [F17S]), (18, [F18S]), (19, [F19S])]) ⟨⟨F7_ok, trivial⟩, ⟨F10_ok, trivial⟩, ⟨F11_ok, trivial⟩, ⟨F17_ok, trivial⟩, ⟨F18_ok, trivial⟩, ⟨F19_ok, trivial⟩, trivial⟩ rfl) (by kernel_rfl) (by kernel_rfl) (by kernel_rfl) (by kernel_rfl) (by kernel_rfl) (by kernel_rfl) (fun y => rfl)
  (fun x z h => (F9_eq ).trans h)
noncomputable def F3 : (El Y23) → (El Y23) → Option (El Y4) := fun a0 a1 =>
  Option.bind
    (Option.bind (F7 a0 a1) fun x0 =>
      Option.bind (F8 a0 a1) fun x1 =>
        bif Decidable.decide (x0 = x1) then
          Option.bind (F7 a1 a0) fun x2 => Option.bind (F8 a1 a0) fun x3 => bif Decidable.decide (x2 = x3) then Option.bind F9 fun x4 => Option.some x4 else Option.some Bool.false
        else Option.some Bool.false)
    fun x5 => Option.some x5
abbrev F3A : Pats := (.cons (.pd Y23) (.cons (.pd Y23) .nil))
abbrev F3R : Pats := (.cons (.pd Y4) .nil)
noncomputable def F3S : Tr.Spec := { args := F3A, res := F3R, fns := [], α := El Y4, f := fun x => F3 x.1 x.2.1, unp := fun z => (((), (), ()), (z, ())) }
noncomputable def F3E : Env := { ty := fun n => tyTab.lookup n, mty := fun n => mapTab.lookup n, pk := fun n => (pkTab.lookup n).getD 0, rw := fun n => [].contains n, specs := fun n => (([(7, [F7S]), (8, [F8S]), (9, [F9S])] : List (Nat × List Tr.Spec)).lookup n).getD [], nt := 24, ks := [] }
noncomputable def F3B : Code := match Try.f3.body with | some b => b | none => .skip
def F3H : Hint := (.seq .leaf (.seq (.reg [(4, Y4)]) .leaf))
noncomputable def F3V (a0 : El Y23) (a1 : El Y23) : Option (El Y4) := evalF F3E F3B Try.f3.results F3H F3A F3R (fun y => y.2.1) (a0, a1, ())
theorem F3_eq (a0 : El Y23) (a1 : El Y23) : F3V a0 a1 = F3 a0 a1 := by kernel_rfl
theorem F3_ok : FnOK Try.prog 3 F3S := evalF_ok (E := F3E) (fn := Try.f3) (body := F3B) (hint := F3H) (pack := fun y => y.2.1) hmix (typesOk_of tab_ok rfl rfl rfl) (specsOk_of (m := [(7, [F7S]), (8, [F8S]), (9, [F9S])]) ⟨⟨F7_ok, trivial⟩, ⟨F8_ok, trivial⟩, ⟨F9_ok, trivial⟩, trivial⟩ rfl) (by kernel_rfl) (by kernel_rfl) (by kernel_rfl) (by kernel_rfl) (by kernel_rfl) (by kernel_rfl) (fun y => rfl)
  (fun x z h => (F3_eq x.1 x.2.1).trans h)
noncomputable def F12 : (El Y27) → Option (El Y4) := fun a0 =>
  Option.bind
    (Tr.run
      (fun s0 =>
        bif Decidable.decide (s0 < (↑(List.length a0) : Int)) then
          Option.bind (Tr.idx a0 s0) fun x1 =>
            Option.bind (Tr.idx a0 (Go.IntKind.wrap Go.IntKind.i64 (s0 - (1 : Int)))) fun x2 =>
              bif Decidable.decide (x1.snd.snd.snd.snd.fst < x2.snd.snd.snd.snd.fst) then Option.some (Sum.inr (Sum.inr Bool.false))
              else Option.some (Sum.inl (Go.IntKind.wrap Go.IntKind.i64 (s0 + (1 : Int))))
        else Option.some (Sum.inr (Sum.inl ())))
      (1 : Int))
    fun x3 => Sum.elim (fun y4 => Option.some Bool.true) (fun y5 => Option.some y5) x3
abbrev F12A : Pats := (.cons (.pd Y27) .nil)
abbrev F12R : Pats := (.cons (.pd Y4) .nil)
noncomputable def F12S : Tr.Spec := { args := F12A, res := F12R, fns := [], α := El Y4, f := fun x => F12 x.1, unp := fun z => (((), ()), (z, ())) }
noncomputable def F12E : Env := { ty := fun n => tyTab.lookup n, mty := fun n => mapTab.lookup n, pk := fun n => (pkTab.lookup n).getD 0, rw := fun n => [].contains n, specs := fun n => (([] : List (Nat × List Tr.Spec)).lookup n).getD [], nt := 22, ks := [] }
noncomputable def F12B : Code := match Try.f12.body with | some b => b | none => .skip
def F12H : Hint := (.seq .leaf (.seq (.seq .leaf (.lp ⟨[(3, (.pd Y3))], [], [0]⟩ [((.exit 0), ⟨[], [], []⟩), (.ret, ⟨[(2, (.pd Y4))], [], []⟩)] .leaf)) .leaf))
noncomputable def F12V (a0 : El Y27) : Option (El Y4) := evalF F12E F12B Try.f12.results F12H F12A F12R (fun y => y.2.1) (a0, ())
theorem F12_eq (a0 : El Y27) : F12V a0 = F12 a0 := by kernel_rfl
theorem F12_ok : FnOK Try.prog 12 F12S := evalF_ok (E := F12E) (fn := Try.f12) (body := F12B) (hint := F12H) (pack := fun y => y.2.1) hmix (typesOk_of tab_ok rfl rfl rfl) (specsOk_of (m := []) trivial rfl) (by kernel_rfl) (by kernel_rfl) (by kernel_rfl) (by kernel_rfl) (by kernel_rfl) (by kernel_rfl) (fun y => rfl)
  (fun x z h => (F12_eq x.1).trans h)
noncomputable def F13 : (El Y27) → (El Y3) → Option (El Y3) := fun a0 a1 =>
  Option.bind
    (Tr.run
      (fun s0 =>
        bif Decidable.decide (s0.snd < (↑(List.length a0) : Int)) then
          Option.bind (Tr.idx a0 s0.snd) fun x1 =>
            bif Decidable.decide (x1.snd.snd.snd.snd.fst < a1) then Option.some (Sum.inl (Go.IntKind.wrap Go.IntKind.i64 (s0.fst + (1 : Int)), Go.IntKind.wrap Go.IntKind.i64 (s0.snd + (1 : Int))))
            else Option.some (Sum.inl (s0.fst, Go.IntKind.wrap Go.IntKind.i64 (s0.snd + (1 : Int))))
        else Option.some (Sum.inr s0.fst))
      ((0 : Int), (0 : Int)))
    fun x2 => Option.some x2
abbrev F13A : Pats := (.cons (.pd Y27) (.cons (.pd Y3) .nil))
abbrev F13R : Pats := (.cons (.pd Y3) .nil)
noncomputable def F13S : Tr.Spec := { args := F13A, res := F13R, fns := [], α := El Y3, f := fun x => F13 x.1 x.2.1, unp := fun z => (((), (), ()), (z, ())) }
noncomputable def F13E : Env := { ty := fun n => tyTab.lookup n, mty := fun n => mapTab.lookup n, pk := fun n => (pkTab.lookup n).getD 0, rw := fun n => [].contains n, specs := fun n => (([] : List (Nat × List Tr.Spec)).lookup n).getD [], nt := 23, ks := [] }
noncomputable def F13B : Code := match Try.f13.body with | some b => b | none => .skip
def F13H : Hint := (.seq .leaf (.seq .leaf (.seq (.seq .leaf (.lp ⟨[(5, (.pd Y3)), (6, (.pd Y3))], [], [0, 1]⟩ [((.exit 0), ⟨[(5, (.pd Y3))], [], []⟩)] .leaf)) .leaf)))
noncomputable def F13V (a0 : El Y27) (a1 : El Y3) : Option (El Y3) := evalF F13E F13B Try.f13.results F13H F13A F13R (fun y => y.2.1) (a0, a1, ())
theorem F13_eq (a0 : El Y27) (a1 : El Y3) : F13V a0 a1 = F13 a0 a1 := by kernel_rfl
theorem F13_ok : FnOK Try.prog 13 F13S := evalF_ok (E := F13E) (fn := Try.f13) (body := F13B) (hint := F13H) (pack := fun y => y.2.1) hmix (typesOk_of tab_ok rfl rfl rfl) (specsOk_of (m := []) trivial rfl) (by kernel_rfl) (by kernel_rfl) (by kernel_rfl) (by kernel_rfl) (by kernel_rfl) (by kernel_rfl) (fun y => rfl)
  (fun x z h => (F13_eq x.1 x.2.1).trans h)
noncomputable def F14 : (El Y27) → (El Y3) → Option (El Y3) := fun a0 a1 =>
  Option.bind
    (Tr.run
      (fun s0 =>
        bif Decidable.decide (s0.snd < (↑(List.length a0) : Int)) then
          Option.bind (Tr.idx a0 s0.snd) fun x1 =>
            bif Decidable.decide (x1.snd.snd.snd.snd.fst ≤ a1) then Option.some (Sum.inl (Go.IntKind.wrap Go.IntKind.i64 (s0.fst + (1 : Int)), Go.IntKind.wrap Go.IntKind.i64 (s0.snd + (1 : Int))))
            else Option.some (Sum.inl (s0.fst, Go.IntKind.wrap Go.IntKind.i64 (s0.snd + (1 : Int))))
        else Option.some (Sum.inr s0.fst))
      ((0 : Int), (0 : Int)))
    fun x2 => Option.some x2
abbrev F14A : Pats := (.cons (.pd Y27) (.cons (.pd Y3) .nil))
abbrev F14R : Pats := (.cons (.pd Y3) .nil)
noncomputable def F14S : Tr.Spec := { args := F14A, res := F14R, fns := [], α := El Y3, f := fun x => F14 x.1 x.2.1, unp := fun z => (((), (), ()), (z, ())) }
noncomputable def F14E : Env := { ty := fun n => tyTab.lookup n, mty := fun n => mapTab.lookup n, pk := fun n => (pkTab.lookup n).getD 0, rw := fun n => [].contains n, specs := fun n => (([] : List (Nat × List Tr.Spec)).lookup n).getD [], nt := 23, ks := [] }
noncomputable def F14B : Code := match Try.f14.body with | some b => b | none => .skip
def F14H : Hint := (.seq .leaf (.seq .leaf (.seq (.seq .leaf (.lp ⟨[(5, (.pd Y3)), (6, (.pd Y3))], [], [0, 1]⟩ [((.exit 0), ⟨[(5, (.pd Y3))], [], []⟩)] .leaf)) .leaf)))
noncomputable def F14V (a0 : El Y27) (a1 : El Y3) : Option (El Y3) := evalF F14E F14B Try.f14.results F14H F14A F14R (fun y => y.2.1) (a0, a1, ())
theorem F14_eq (a0 : El Y27) (a1 : El Y3) : F14V a0 a1 = F14 a0 a1 := by kernel_rfl
theorem F14_ok : FnOK Try.prog 14 F14S := evalF_ok (E := F14E) (fn := Try.f14) (body := F14B) (hint := F14H) (pack := fun y => y.2.1) hmix (typesOk_of tab_ok rfl rfl rfl) (specsOk_of (m := []) trivial rfl) (by kernel_rfl) (by kernel_rfl) (by kernel_rfl) (by kernel_rfl) (by kernel_rfl) (by kernel_rfl) (fun y => rfl)
  (fun x z h => (F14_eq x.1 x.2.1).trans h)
noncomputable def F4 : (El Y27) → (El Y3) → Option (El Y4) := fun a0 a1 =>
  bif Decidable.decide ((300 : Int) < (↑(List.length a0) : Int)) then Option.bind F9 fun x0 => Option.some x0
  else
    Option.bind (F10 a0 a1) fun x1 =>
      Option.bind (F11 a0 a1) fun x2 =>
        Option.bind (F12 a0) fun x3 =>
          bif !x3 then
            Option.bind
              (bif Decidable.decide ((0 : Int) ≤ x1) then
                bif Decidable.decide (x1 ≤ (↑(List.length a0) : Int)) then
                  bif Decidable.decide ((0 : Int) ≤ x2) then bif Decidable.decide (x2 ≤ (↑(List.length a0) : Int)) then Option.bind F9 fun x4 => Option.some x4 else Option.some Bool.false
                  else Option.some Bool.false
                else Option.some Bool.false
              else Option.some Bool.false)
              fun x5 => Option.some x5
          else
            Option.bind
              (Option.bind (F13 a0 a1) fun x6 =>
                bif Decidable.decide (x1 = x6) then Option.bind (F14 a0 a1) fun x7 => bif Decidable.decide (x2 = x7) then Option.bind F9 fun x8 => Option.some x8 else Option.some Bool.false
                else Option.some Bool.false)
              fun x9 => Option.some x9
abbrev F4A : Pats := (.cons (.pd Y27) (.cons (.pd Y3) .nil))
abbrev F4R : Pats := (.cons (.pd Y4) .nil)
noncomputable def F4S : Tr.Spec := { args := F4A, res := F4R, fns := [], α := El Y4, f := fun x => F4 x.1 x.2.1, unp := fun z => (((), (), ()), (z, ())) }
noncomputable def F4E : Env := { ty := fun n => tyTab.lookup n, mty := fun n => mapTab.lookup n, pk := fun n => (pkTab.lookup n).getD 0, rw := fun n => [].contains n, specs := fun n => (([(9, [F9S]), (10, [F10S]), (11, [F11S]), (12, [F12S]), (13, [F13S]), (14, [F14S])] : List (Nat × List Tr.Spec)).lookup n).getD [], nt := 56, ks := [] }
noncomputable def F4B : Code := match Try.f4.body with | some b => b | none => .skip
def F4H : Hint := (.seq .leaf (.seq .leaf (.seq .leaf (.seq (.seq .leaf (.cnd none (.seq (.reg [(4, Y4)]) .leaf) .leaf)) (.seq (.reg [(4, Y4)]) .leaf)))))
noncomputable def F4V (a0 : El Y27) (a1 : El Y3) : Option (El Y4) := evalF F4E F4B Try.f4.results F4H F4A F4R (fun y => y.2.1) (a0, a1, ())
theorem F4_eq (a0 : El Y27) (a1 : El Y3) : F4V a0 a1 = F4 a0 a1 := by kernel_rfl
theorem F4_ok : FnOK Try.prog 4 F4S := evalF_ok (E := F4E) (fn := Try.f4) (body := F4B) (hint := F4H) (pack := fun y => y.2.1) hmix (typesOk_of tab_ok rfl rfl rfl) (specsOk_of (m := [(9, [F9S]), (10, [F10S]), (11, [F11S]), (12, [F12S]), (13, [F13S]), (14, [F14S])]) ⟨⟨F9_ok, trivial⟩, ⟨F10_ok, trivial⟩, ⟨F11_ok, trivial⟩, ⟨F12_ok, trivial⟩, ⟨F13_ok, trivial⟩, ⟨F14_ok, trivial⟩, trivial⟩ rfl) (by kernel_rfl) (by kernel_rfl) (by kernel_rfl) (by kernel_rfl) (by kernel_rfl) (by kernel_rfl) (fun y => rfl)
  (fun x z h => (F4_eq x.1 x.2.1).trans h)
end Q
