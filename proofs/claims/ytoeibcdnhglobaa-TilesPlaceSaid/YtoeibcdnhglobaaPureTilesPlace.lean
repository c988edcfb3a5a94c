/- For every level and index: where a node is, is told as the document says. -/
import Derived.Test.YtoeibcdnhglobaaPx4
import Derived.OpenShut
import Derived.KernelRfl
namespace Go.Proofs.Ytoeibcdnhglobaa.Pure
set_option linter.unusedVariables false
set_option linter.unusedSimpArgs false
open Go.RowKit Go.Proofs.Ytoeibcdnhglobaa.P Go.Proofs.YtoeibcdnhglobaaW.PrintWords Go.Proofs.YtoeibcdnhglobaaW.PrintLast

theorem shl_one (s : Nat) (hs : s ≤ 7) : shl .i64 1 (s : Int) = 2 ^ s := by
  have : s = 0 ∨ s = 1 ∨ s = 2 ∨ s = 3 ∨ s = 4 ∨ s = 5 ∨ s = 6 ∨ s = 7 := by omega
  rcases this with rfl | rfl | rfl | rfl | rfl | rfl | rfl | rfl <;> decide +kernel
theorem place_loop (level index f e a b c : Int) (s : Nat) (hs : s ≤ 7) (hl : Int.tmod level 8 = s) (d : Nat) : ∀ (k j : Nat), j ≤ s → s - j = d → d + 1 < k →
    ∃ q, pantilelaw12_TilesPlace.l0 k level index f e (2 ^ j) j a b c = pantilelaw12_TilesPlace.l0 (q + 1) level index f e (2 ^ s) s a b c := by
  induction d with
  | zero =>
    intro k j hj hd hk
    obtain rfl : j = s := by omega
    exact ⟨k - 1, by rw [show k - 1 + 1 = k from by omega]⟩
  | succ d ih =>
    intro k j hj hd hk
    obtain ⟨k, rfl⟩ : ∃ q, k = q + 1 := ⟨k - 1, by omega⟩
    obtain ⟨q, hq⟩ := ih k (j + 1) (by omega) (by omega) (by omega)
    refine ⟨q, ?_⟩
    rw [← hq]
    have h1 : pantilelaw12_TilesPlace.l0 (k + 1) level index f e (2 ^ j) j a b c = pantilelaw12_TilesPlace.l0 k level index f e (wrap64 (2 * 2 ^ j)) (wrap64 (j + 1)) a b c := by
      simp only [pantilelaw12_TilesPlace.l0]
      rw [if_pos (by omega)]
    rw [h1]
    have h2 : wrap64 (2 * 2 ^ j) = 2 ^ (j + 1) := by
      have : j = 0 ∨ j = 1 ∨ j = 2 ∨ j = 3 ∨ j = 4 ∨ j = 5 ∨ j = 6 := by omega
      rcases this with rfl | rfl | rfl | rfl | rfl | rfl | rfl <;> decide +kernel
    rw [h2, wrap64_id (by omega) (by omega)]
    rfl
theorem TilesPlace : pantilelaw12_TilesPlace.Pure := by
  intro level index h0 h1
  have b0 := bounds_i64 h0
  have b1 := bounds_i64 h1
  refine ⟨20, ?_⟩
  have bad : ∀ x : Option Bool, x = pantilelaw12_TilesPlace.j0 20 level index 0 6 true 0 0 0 → x = some true := by
    rintro x rfl
    simp [pantilelaw12_TilesPlace.j0, pantilelaw12_lives.f]
  unfold pantilelaw12_TilesPlace.f tiles_Place.f
  by_cases c1 : level < 0
  · rw [if_pos c1, Option.bind_some, if_pos c1]; exact bad _ rfl
  by_cases c2 : level > 40
  · rw [if_neg c1, if_pos c2, Option.bind_some, if_neg c1, if_pos c2]; exact bad _ rfl
  by_cases c3 : index < 0
  · rw [if_neg c1, if_neg c2, if_pos c3, Option.bind_some, if_neg c1, if_neg c2, if_pos c3]; exact bad _ rfl
  by_cases c4 : index > 1099511627776
  · rw [if_neg c1, if_neg c2, if_neg c3, if_pos c4, Option.bind_some, if_neg c1, if_neg c2, if_neg c3, decide_eq_true c4]; exact bad _ rfl
  rw [if_neg c1, if_neg c2, if_neg c3, if_neg c4]
  have hm : Int.tmod level 8 = level % 8 := Int.tmod_eq_emod_of_nonneg (by omega)
  obtain ⟨s, hs⟩ : ∃ s : Nat, level % 8 = s := ⟨(level % 8).toNat, by omega⟩
  have hs7 : s ≤ 7 := by omega
  rw [hm, if_pos (by omega), Option.bind_some, if_neg c1, if_neg c2, if_neg c3, decide_eq_false c4, hs, shl_one s hs7]
  simp only [pantilelaw12_TilesPlace.j0]
  rw [if_neg (by simp)]
  obtain ⟨q, hq⟩ := place_loop level index ((wrap64 (index * 2 ^ s)).tmod 256) 0 (wrap64 (level.tdiv 8)) (wrap64 ((wrap64 (index * 2 ^ s)).tdiv 256)) (wrap64 ((wrap64 (index * 2 ^ s)).tmod 256 + 2 ^ s)) s hs7 (hm.trans hs) s 19 0 (by omega) (by omega) (by omega)
  have hq' : pantilelaw12_TilesPlace.l0 19 level index ((wrap64 (index * 2 ^ s)).tmod 256) 0 1 0 (wrap64 (level.tdiv 8)) (wrap64 ((wrap64 (index * 2 ^ s)).tdiv 256)) (wrap64 ((wrap64 (index * 2 ^ s)).tmod 256 + 2 ^ s)) = _ := hq
  rw [hq']
  simp only [pantilelaw12_TilesPlace.l0]
  have hm' : Int.tmod level 8 = s := hm.trans hs
  have e : s = 0 ∨ s = 1 ∨ s = 2 ∨ s = 3 ∨ s = 4 ∨ s = 5 ∨ s = 6 ∨ s = 7 := by omega
  obtain ⟨p, hp, ep⟩ : ∃ p : Int, (p = 1 ∨ p = 2 ∨ p = 4 ∨ p = 8 ∨ p = 16 ∨ p = 32 ∨ p = 64 ∨ p = 128) ∧ (2 : Int) ^ s = p := by
    rcases e with rfl | rfl | rfl | rfl | rfl | rfl | rfl | rfl
    · exact ⟨1, by simp, rfl⟩
    · exact ⟨2, by simp, rfl⟩
    · exact ⟨4, by simp, rfl⟩
    · exact ⟨8, by simp, rfl⟩
    · exact ⟨16, by simp, rfl⟩
    · exact ⟨32, by simp, rfl⟩
    · exact ⟨64, by simp, rfl⟩
    · exact ⟨128, by simp, rfl⟩
  rw [ep]
  have hx : wrap64 (index * p) = index * p := by
    rcases hp with rfl | rfl | rfl | rfl | rfl | rfl | rfl | rfl <;> exact wrap64_id (by omega) (by omega)
  have hx0 : 0 ≤ index * p ∧ index * p ≤ 140737488355328 := by
    rcases hp with rfl | rfl | rfl | rfl | rfl | rfl | rfl | rfl <;> omega
  have hmod : (index * p % 256) % p = 0 ∧ index * p % 256 + p ≤ 256 ∧ 0 < p := by
    rcases hp with rfl | rfl | rfl | rfl | rfl | rfl | rfl | rfl <;> omega
  rw [hx, hm', if_neg (by omega)]
  simp only [if_true]
  rw [Int.tmod_eq_emod_of_nonneg hx0.1, Int.tdiv_eq_ediv_of_nonneg hx0.1, if_pos (by omega), wrap64_id (x := index * p % 256 + p) (by omega) (by omega), if_pos (by omega), if_neg (by omega), Int.tmod_eq_emod_of_nonneg (by omega), if_pos hmod.1, wrap64_id (x := index * p / 256) (by omega) (by omega), wrap64_id (x := 256 * (index * p / 256)) (by omega) (by omega), wrap64_id (by omega) (by omega), if_pos (by omega)]
  rfl
end Go.Proofs.Ytoeibcdnhglobaa.Pure
