/- The document's examples of tiles: they hold. -/
import Derived.KernelRfl
import Derived.Test.YtoeibcdnhglobaaGAll
import Derived.Test.YtoeibcdnhglobaaPx1
import Derived.Test.YtoeibcdnhglobaaPx3
namespace Go.Proofs.Ytoeibcdnhglobaa.P
set_option linter.unusedVariables false
set_option linter.unusedSimpArgs false
open Go.RowKit Go.Shelf Go.Proofs.YtoeibcdnhglobaaW.PrintWords Go.Proofs.YtoeibcdnhglobaaW.PrintLast Go.Proofs.YtoeibcdnhglobaaW.PrintMore
attribute [local go_sem high] eqA30
theorem tilesT_257 : tilesT 257 = [⟨-1, 0, 256⟩, ⟨-1, 1, 1⟩, ⟨0, 0, 256⟩, ⟨0, 1, 1⟩, ⟨1, 0, 1⟩] := by kernel_rfl
theorem Place_35 : tiles_Place.f 3 5 = some (0, 0, 48, 40, 0) := by kernel_rfl
theorem All_257 (w : World) : Calls Try.prog 10 #[.int .i64 257] w fun e w' => ∃ g c, e = .returned (.slice (some ⟨g, 0, none⟩) 5 c) ∧ Below w.heap.size w w' ∧ w.heap.size ≤ g ∧
    w'.cell? ⟨g, 3, none⟩ = some (.int .i64 (-1)) ∧ w'.cell? ⟨g, 4, none⟩ = some (.int .i64 1) ∧ w'.cell? ⟨g, 5, none⟩ = some (.int .i64 1) ∧
    w'.cell? ⟨g, 12, none⟩ = some (.int .i64 1) ∧ w'.cell? ⟨g, 13, none⟩ = some (.int .i64 0) ∧ w'.cell? ⟨g, 14, none⟩ = some (.int .i64 1) ∧ g < w'.heap.size := by
  refine (callsIn_wide.1 (All_in 6 (Nat.le_refl _) 257 w)).mono ?_
  rintro e w' ⟨v, rfl, ho, hb⟩
  rw [tilesT_257] at ho
  obtain ⟨g, cap, rfl, hg, hlt⟩ := ho.form (by simp)
  have hc := fun j u hj => ho.cells (g := g) rfl j u hj
  refine ⟨g, cap, rfl, hb, hg, ?_, ?_, ?_, ?_, ?_, ?_, own_lt ho g rfl⟩
  all_goals (rw [← add_plain]; exact hc _ _ rfl)
/-- The document's example lives. -/
def pantilelaw12_lives.f : Option (Bool) := some true
set_option maxHeartbeats 4000000 in
set_option maxRecDepth 100000 in
theorem pantilelaw12_lives.calls (r : Bool) (w : World) (h : pantilelaw12_lives.f = some r) :
    Calls Try.prog 14 #[] w fun e w' => e = .returned (.bool r) ∧ Below w.heap.size w w' := by
  obtain rfl : true = r := Option.some.inj h
  clear h
  have hu30 := Try.underlying30
  go_enter Try.func14, Try.ntmps14
  go_wp2_with (first
    | (go_at_call 10; refine (All_257 _).mono ?_; rintro e w1 ⟨g, c, rfl, hb1, hg, c3, c4, c5, c12, c13, c14, hgl⟩)
    | (go_at_call 15; refine (tiles_Place.calls 3 5 0 0 48 40 0 _ Place_35).mono ?_; rintro e w2 ⟨rfl, hb2⟩; replace c3 := pw_cell_below hb2 c3; replace c4 := pw_cell_below hb2 c4; replace c5 := pw_cell_below hb2 c5; replace c12 := pw_cell_below hb2 c12; replace c13 := pw_cell_below hb2 c13; replace c14 := pw_cell_below hb2 c14; replace hgl := Nat.lt_of_lt_of_le hgl hb2.size))
  go_ret
  exact ⟨rfl, (hb1.trans (hb2.mono hb1.size)).alloc (Nat.le_trans hb1.size hb2.size) _⟩
end Go.Proofs.Ytoeibcdnhglobaa.P
