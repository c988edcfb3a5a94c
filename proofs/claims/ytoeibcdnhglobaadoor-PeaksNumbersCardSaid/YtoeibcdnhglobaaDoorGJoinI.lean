/- The law's sum, as a range's. -/
import Derived.Test.YtoeibcdnhglobaaDoorGRange
namespace Go.Proofs.YtoeibcdnhglobaaDoor.P
set_option linter.unusedVariables false
set_option linter.unusedSimpArgs false
open Go.RowKit Go.Proofs.YtoeibcdnhglobaaDoor.Pure
def GlobI (w : World) : Prop := True
theorem GlobI.below {w w' : World} (h : GlobI w) {B : Nat} (hb : Below B w w') : GlobI w' := trivial
def okI (a b : Int) : Prop := True
/-- A sum of two numbers. -/
def addI (a b : Int) : Int := wrap64 (a + b)
theorem inf3 : (Tryd.prog.info? 3).map (fun i => (i.zero, i.size, i.bytes)) = some (some (.int .i64 0), 1, 8) := by kernel_rfl
theorem Jc_I (a b : Int) (h : okI a b) (w : World) (hG : GlobI w) : Calls Tryd.prog 29 #[.int .i64 a, .int .i64 b] w fun e w' => e = .returned (.int .i64 (addI a b)) ∧ Below w.heap.size w w' := by
  go_enter Tryd.func29, Tryd.ntmps29
  go_wp2
  go_ret
  exact ⟨rfl, Below.refl _ _⟩
theorem merge_okI : ∀ (t : Nat) (h : Int) (st : List Int), mergeOk okI addI t h st
  | 0, _, _ => trivial
  | _ + 1, _, [] => trivial
  | t + 1, h, p :: st => ⟨trivial, merge_okI t _ st⟩
end Go.Proofs.YtoeibcdnhglobaaDoor.P
