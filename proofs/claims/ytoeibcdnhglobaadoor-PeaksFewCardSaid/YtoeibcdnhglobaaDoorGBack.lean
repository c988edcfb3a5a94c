/- What a loop from behind over a row of one's own rests on. -/
import Derived.RangeFuncNested
import Derived.RangeFuncBox
import Derived.Test.YtoeibcdnhglobaaDoorGRange
import Derived.Test.YtoeibcdnhglobaaDoorGRound
import Derived.Shelf.Slices.Clone
import Derived.Shelf.Lay
namespace Go.Proofs.YtoeibcdnhglobaaDoor.P
set_option linter.unusedVariables false
set_option linter.unusedSimpArgs false
open Go.RowKit Go.Shelf Go.Proofs.YtoeibcdnhglobaaDoorW.PrintWords Go.Proofs.YtoeibcdnhglobaaDoorW.PrintLast Go.Proofs.YtoeibcdnhglobaaDoorW.PrintMore
shelf_lay Lays2.n16 Nm2 16 at Tryd as Tryd.lays16
shelf_lay Lays2.n15 Nm2 15 at Tryd as Tryd.lays15
/-- The cells of S's blocks hold what they held. -/
def KpS (S : Nat → Prop) (W W' : World) : Prop := ∀ p v, S p.block → W.cell? p = some v → W'.cell? p = some v
theorem KpS.of_below {S : Nat → Prop} {n₀ : Nat} {W W' : World} (h : Below n₀ W W') (hb : ∀ k, S k → k < n₀) : KpS S W W' := fun p _ hp hv => (h.cell (p := p) (hb _ hp)).trans hv
theorem KpS.t {S : Nat → Prop} {A B C : World} (h : KpS S A B) (k : KpS S B C) : KpS S A C := fun p v hp hv => k p v hp (h p v hp hv)
theorem KpS.b {S : Nat → Prop} {B : Nat} (W : World) (l : Nat) (o o' : Obj) (_ : B ≤ l) (hl : W.heap[l]? = some o) (ho : o.isCells = false) (_ : o.isWalk = false) : KpS S W (W.putObj l o') := fun p _ hp hv =>
  cell_kept hv (grownBy_putObj' W l o') (fun r e => by cases e; exact ⟨o, hl, ho⟩)
theorem KpS.set {S : Nat → Prop} {W : World} {B : Nat} (u : Value) (hS : ∀ k, S k → k ≠ B) : KpS S W (W.setCell ⟨B, 0, none⟩ u) := fun p _ hp hv =>
  (World.cell?_of_block (Below.heap_setCell W ⟨B, 0, none⟩ u p.block (hS _ hp))).trans hv
theorem KeepsOthers.refl' (W : World) : KeepsOthers W W := ⟨Nat.le_refl _, fun _ _ h _ => h⟩
theorem callsIn_inr {k : Nat} (l : Nat) {f : FuncId} {args : Array Value} {w : World} {Q : Ending → World → Prop} (h : CallsIn Fence.wide k Tryd.prog f args w Q) : CallsIn (Fence.wide.inRound l) k Tryd.prog f args w Q := CallsIn.inRound l h
theorem _root_.Go.KeepsOthers.of_below' {W W' : World} (h : Below W.heap.size W W') : KeepsOthers W W' := KeepsOthers.of_grownBy (grown_of_below h none) (fun _ _ e => by simp at e)
theorem _root_.Go.KeepsOthers.trans' {A B C : World} (h : KeepsOthers A B) (k : KeepsOthers B C) : KeepsOthers A C := h.trans k
theorem _root_.Go.Boxed.below {W W' : World} {B : Nat} {t : TypeId} {v : Value} (h : Boxed W B t v) (hb : Below W.heap.size W W') : Boxed W' B t v := h.kept (grown_of_below hb none) (by simp)
end Go.Proofs.YtoeibcdnhglobaaDoor.P
