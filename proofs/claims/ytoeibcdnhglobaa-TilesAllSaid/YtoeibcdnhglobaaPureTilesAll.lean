/- For every size, level and index: the tiles of a tree and a tile's width are the document's. -/
import Derived.Test.YtoeibcdnhglobaaPx4
import Derived.OpenShut
namespace Go.Proofs.Ytoeibcdnhglobaa.Pure
set_option linter.unusedVariables false
set_option linter.unusedSimpArgs false
open Go.RowKit Go.Proofs.Ytoeibcdnhglobaa.P Go.Proofs.YtoeibcdnhglobaaW.PrintWords Go.Proofs.YtoeibcdnhglobaaW.PrintLast

theorem small_some (a : Int) : ∃ b, pantilelaw12_small.f a = some b := by
  unfold pantilelaw12_small.f
  split
  · split <;> exact ⟨_, rfl⟩
  · exact ⟨_, rfl⟩
theorem TilesAll : pantilelaw12_TilesAll.Pure := by
  intro n level index _ _ _
  obtain ⟨b, hb⟩ := small_some n
  refine ⟨40000, ?_⟩
  unfold pantilelaw12_TilesAll.f tiles_All.f
  have hl := tilesT_len b
  rw [hb, Option.bind_some, Option.bind_some, refAll_eq 40000 (by decide), Option.bind_some, Same_refl 40000 _ (by omega) (by omega), Option.bind_some, if_pos rfl, Width_eq, Option.bind_some, refWidth_eq 40000 (by decide), Option.bind_some, if_pos rfl]
  rfl
end Go.Proofs.Ytoeibcdnhglobaa.Pure
