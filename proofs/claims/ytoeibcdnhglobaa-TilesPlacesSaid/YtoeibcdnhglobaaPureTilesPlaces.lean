/- For every index: a leaf's hash is in the tile of its index by 256, and a whole tile is one node of the next level. -/
import Derived.Test.YtoeibcdnhglobaaPx5
import Derived.OpenShut
import Derived.KernelRfl
namespace Go.Proofs.Ytoeibcdnhglobaa.Pure
set_option linter.unusedVariables false
set_option linter.unusedSimpArgs false
open Go.RowKit Go.Proofs.Ytoeibcdnhglobaa.P Go.Proofs.YtoeibcdnhglobaaW.PrintWords Go.Proofs.YtoeibcdnhglobaaW.PrintLast

theorem shl_1 : shl .i64 1 0 = 1 := by decide +kernel
theorem place_at (l q i : Int) (hl : l = 0 ∧ q = 0 ∨ l = 8 ∧ q = 1) (h0 : 0 ≤ i) (h1 : i ≤ 1073741824) : tiles_Place.f l i = some (q, i / 256, i % 256 + 1, i % 256, 0) := by
  have h8 : Int.tmod l 8 = 0 := by rcases hl with ⟨rfl, _⟩ | ⟨rfl, _⟩ <;> rfl
  have hq : wrap64 (Int.tdiv l 8) = q := by rcases hl with ⟨rfl, rfl⟩ | ⟨rfl, rfl⟩ <;> decide +kernel
  unfold tiles_Place.f
  rw [if_neg (by omega), if_neg (by omega), if_neg (by omega), if_neg (by omega), h8, if_pos (by omega), shl_1, hq, Int.mul_one, wrap64_id (x := i) (by omega) (by omega), Int.tmod_eq_emod_of_nonneg h0, Int.tdiv_eq_ediv_of_nonneg h0, wrap64_id (by omega) (by omega), wrap64_id (by omega) (by omega)]
theorem TilesPlaces : pantilelaw12_TilesPlaces.Pure := by
  intro a h
  have b := bounds_i64 h
  unfold pantilelaw12_TilesPlaces.f
  have key : ∀ i : Int, 0 ≤ i → ∀ j, j = i % 1073741825 → wrap64 (Int.tdiv j 256) = j / 256 ∧ wrap64 (Int.tmod j 256 + 1) = j % 256 + 1 ∧ Int.tmod j 256 = j % 256 ∧ tiles_Place.f 0 j = some (0, j / 256, j % 256 + 1, j % 256, 0) ∧ tiles_Place.f 8 j = some (1, j / 256, j % 256 + 1, j % 256, 0) := by
    intro i hi j hj
    have hj0 : 0 ≤ j ∧ j ≤ 1073741824 := by omega
    refine ⟨?_, ?_, Int.tmod_eq_emod_of_nonneg hj0.1, place_at 0 0 j (by omega) hj0.1 hj0.2, place_at 8 1 j (by omega) hj0.1 hj0.2⟩
    · rw [Int.tdiv_eq_ediv_of_nonneg hj0.1, wrap64_id (by omega) (by omega)]
    · rw [Int.tmod_eq_emod_of_nonneg hj0.1, wrap64_id (by omega) (by omega)]
  by_cases c : a < 0
  · rw [if_pos c]
    have e : wrap64 (-(wrap64 (a + 1))) = -(a + 1) := by rw [wrap64_id (x := a + 1) (by omega) (by omega), wrap64_id (by omega) (by omega)]
    rw [e, Int.tmod_eq_emod_of_nonneg (by omega)]
    obtain ⟨j, hj⟩ : ∃ j, j = -(a + 1) % 1073741825 := ⟨_, rfl⟩
    obtain ⟨k1, k2, k3, k4, k5⟩ := key (-(a + 1)) (by omega) j hj
    rw [← hj, k1, k2, k3, k4, k5]
    simp [pantilelaw12_lives.f]
  · rw [if_neg c, Int.tmod_eq_emod_of_nonneg (by omega)]
    obtain ⟨j, hj⟩ : ∃ j, j = a % 1073741825 := ⟨_, rfl⟩
    obtain ⟨k1, k2, k3, k4, k5⟩ := key a (by omega) j hj
    rw [← hj, k1, k2, k3, k4, k5]
    simp [pantilelaw12_lives.f]
end Go.Proofs.Ytoeibcdnhglobaa.Pure
