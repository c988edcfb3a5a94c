/- What a loop from behind over a row of one's own rests on. -/
import Derived.RangeFuncNested
import Derived.RangeFuncBox
import Derived.Test.YtoeibcdnhglobaaDoorGRange
import Derived.Test.YtoeibcdnhglobaaDoorGRound
import Derived.Shelf.Slices.Clone
namespace Go.Proofs.YtoeibcdnhglobaaDoor.P
set_option linter.unusedVariables false
set_option linter.unusedSimpArgs false
open Go.RowKit Go.Shelf Go.Proofs.YtoeibcdnhglobaaDoorW.PrintWords Go.Proofs.YtoeibcdnhglobaaDoorW.PrintLast Go.Proofs.YtoeibcdnhglobaaDoorW.PrintMore
def Tryd.lays16_ren : Go.Shelf.Ren := ⟨fun | 16 => 81 | n => n, fun | 24 => 22 | 9 => 9 | 4 => 4 | n => n, fun | n => n⟩
theorem Tryd.lays16 : Go.Proofs.Lays2.n16 Tryd.prog Tryd.lays16_ren := {
  mixed := by kernel_rfl
  f16 := Tryd.func81.trans (congrArg some (by kernel_rfl))
  t4 := Tryd.underlying4
  a4 := Tryd.isAgg4
  z4 := Tryd.sizeOf4
  v4 := Tryd.zeroValue4
  t9 := Tryd.underlying9
  a9 := Tryd.isAgg9
  z9 := Tryd.sizeOf9
  v9 := Tryd.zeroValue9
  t24 := Tryd.underlying22
  a24 := Tryd.isAgg22
  z24 := Tryd.sizeOf22
  v24 := Tryd.zeroValue22
  i9 := by kernel_rfl }
def Tryd.lays15_ren : Go.Shelf.Ren := ⟨fun | 15 => 85 | n => n, fun | 22 => 33 | 3 => 3 | 4 => 4 | n => n, fun | n => n⟩
theorem Tryd.lays15 : Go.Proofs.Lays2.n15 Tryd.prog Tryd.lays15_ren := {
  mixed := by kernel_rfl
  f15 := Tryd.func85.trans (congrArg some (by kernel_rfl))
  t3 := Tryd.underlying3
  a3 := Tryd.isAgg3
  z3 := Tryd.sizeOf3
  v3 := Tryd.zeroValue3
  t4 := Tryd.underlying4
  a4 := Tryd.isAgg4
  z4 := Tryd.sizeOf4
  v4 := Tryd.zeroValue4
  t22 := Tryd.underlying33
  a22 := Tryd.isAgg33
  z22 := Tryd.sizeOf33
  v22 := Tryd.zeroValue33
  i3 := by kernel_rfl }
/-- The cells of S's blocks hold what they held. -/
def KpS (S : Nat → Prop) (W W' : World) : Prop := ∀ p v, S p.block → W.cell? p = some v → W'.cell? p = some v
theorem KpS.of_below {S : Nat → Prop} {n₀ : Nat} {W W' : World} (h : Below n₀ W W') (hb : ∀ k, S k → k < n₀) : KpS S W W' := fun p _ hp hv => (h.cell (p := p) (hb _ hp)).trans hv
theorem KpS.t {S : Nat → Prop} {A B C : World} (h : KpS S A B) (k : KpS S B C) : KpS S A C := fun p v hp hv => k p v hp (h p v hp hv)
theorem KpS.b {S : Nat → Prop} {B : Nat} (W : World) (l : Nat) (o o' : Obj) (_ : B ≤ l) (hl : W.heap[l]? = some o) (ho : o.isCells = false) (_ : o.isWalk = false) : KpS S W (W.putObj l o') := fun p _ hp hv =>
  cell_kept hv (grownBy_putObj' W l o') (fun r e => by cases e; exact ⟨o, hl, ho⟩)
theorem KpS.set {S : Nat → Prop} {W : World} {B : Nat} (u : Value) (hS : ∀ k, S k → k ≠ B) : KpS S W (W.setCell ⟨B, 0, none⟩ u) := fun p _ hp hv =>
  (World.cell?_of_block (Below.heap_setCell W ⟨B, 0, none⟩ u p.block (hS _ hp))).trans hv
theorem KeepsOthers.refl' (W : World) : KeepsOthers W W := ⟨Nat.le_refl _, fun _ _ h _ => h⟩
theorem callsIn_inr {k : Nat} (l : Nat) {f : FuncId} {args : Array Value} {w : World} {Q : Ending → World → Prop} (h : CallsIn Fence.wide k Tryd.prog f args w Q) : CallsIn (Fence.wide.inRound l) k Tryd.prog f args w Q := CallsIn.inRound l h
theorem _root_.Go.KeepsOthers.of_below' {W W' : World} (h : Below W.heap.size W W') : KeepsOthers W W' := KeepsOthers.of_grownBy (grown_of_below h none) (fun _ _ e => by simp at e)
theorem _root_.Go.KeepsOthers.trans' {A B C : World} (h : KeepsOthers A B) (k : KeepsOthers B C) : KeepsOthers A C := h.trans k
theorem _root_.Go.Boxed.below {W W' : World} {B : Nat} {t : TypeId} {v : Value} (h : Boxed W B t v) (hb : Below W.heap.size W W') : Boxed W' B t v := h.kept (grown_of_below hb none) (by simp)
end Go.Proofs.YtoeibcdnhglobaaDoor.P
