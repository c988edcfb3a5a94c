/- For any two sizes: the tiles of the greater tree that the smaller one has not are the document's. -/
import Derived.Test.YtoeibcdnhglobaaPx5
import Derived.OpenShut
namespace Go.Proofs.Ytoeibcdnhglobaa.Pure
set_option linter.unusedVariables false
set_option linter.unusedSimpArgs false
open Go.RowKit Go.Proofs.Ytoeibcdnhglobaa.P Go.Proofs.YtoeibcdnhglobaaW.PrintWords Go.Proofs.YtoeibcdnhglobaaW.PrintLast

theorem small_out (a : Int) : ∃ b, pantilelaw12_small.f a = some b := by
  unfold pantilelaw12_small.f
  split
  · split <;> exact ⟨_, rfl⟩
  · exact ⟨_, rfl⟩
theorem news_l0 (m : Int) (l : List S30) (hl : l.length ≤ 28672) (d : Nat) : ∀ (k i : Nat), i ≤ l.length → l.length - i = d → 100 + d ≤ k → pantileref12_News.l0 k m (newsT m (l.take i)) l i = some (newsT m l) := by
  induction d with
  | zero =>
    intro k i hi hd hk
    obtain ⟨k, rfl⟩ : ∃ q, k = q + 1 := ⟨k - 1, by omega⟩
    simp only [pantileref12_News.l0]
    rw [if_neg (by omega), List.take_of_length_le (by omega)]
  | succ d ih =>
    intro k i hi hd hk
    obtain ⟨k, rfl⟩ : ∃ q, k = q + 1 := ⟨k - 1, by omega⟩
    simp only [pantileref12_News.l0]
    have hlt : i < l.length := by omega
    have hrd : rd_T30 l (i : Int) = l[i] := by simp [rd_T30, List.getD_eq_getElem?_getD, hlt]
    have hts : l.take (i + 1) = l.take i ++ [l[i]] := List.take_succ_eq_append_getElem hlt
    have ihn := ih k (i + 1) (by omega) (by omega) (by omega)
    have hnl := newsT_len m (l.take i)
    rw [List.length_take] at hnl
    rw [if_pos (by omega), if_pos (by omega), refWidth_eq k (by omega), Option.bind_some, hrd, wrap64_id (by omega) (by omega)]
    by_cases hne : Wd m l[i].f0 l[i].f1 = l[i].f2
    · rw [if_pos hne]
      rw [hts, newsT_miss m _ _ hne] at ihn
      exact ihn
    · rw [if_neg hne, if_pos (by omega)]
      rw [hts, newsT_hit m _ _ hne] at ihn
      exact ihn
theorem refNews_eq (k : Nat) (hk : 40000 ≤ k) (m n : Int) : pantileref12_News.f k m n = some (if m < 0 ∨ n < m then [] else newsT m (tilesT n)) := by
  obtain ⟨k, rfl⟩ : ∃ q, k = q + 1 := ⟨k - 1, by omega⟩
  unfold pantileref12_News.f
  by_cases h : m < 0
  · rw [if_pos h, if_pos (.inl h)]
    simp [pantileref12_News.j0]
  · rw [if_neg h]
    simp only [pantileref12_News.j0]
    by_cases h2 : m > n
    · rw [if_pos (decide_eq_true h2), if_pos (.inr h2)]
    · rw [if_neg (by simpa using h2), if_neg (by omega), refAll_eq k (by omega), Option.bind_some]
      have := tilesT_len n
      simpa [newsT] using news_l0 m (tilesT n) this (tilesT n).length k 0 (by omega) (by omega) (by omega)
theorem tilesT_out {n : Int} (h : ¬ (0 ≤ n ∧ n ≤ 1048576)) : tilesT n = [] := upTo_out h 7
theorem News_same (m n : Int) : tiles_News.f m n = some (if m < 0 ∨ n < m then [] else newsT m (tilesT n)) := by
  unfold tiles_News.f
  by_cases h1 : m < 0 ∨ n < m
  · rw [if_pos h1, if_neg (by omega)]
  · rw [if_neg h1]
    by_cases h2 : n ≤ 1048576
    · rw [if_pos (by omega)]
    · rw [if_neg (by omega), tilesT_out (by omega)]
      rfl
theorem TilesNews : pantilelaw12_TilesNews.Pure := by
  intro a c _ _
  obtain ⟨m, hm⟩ := small_out a
  obtain ⟨n, hn⟩ := small_out c
  refine ⟨50000, ?_⟩
  have hl : (if m < 0 ∨ n < m then [] else newsT m (tilesT n)).length ≤ 28672 := by
    split
    · simp
    · have := newsT_len m (tilesT n)
      have := tilesT_len n
      omega
  unfold pantilelaw12_TilesNews.f
  rw [hm, Option.bind_some, hn, Option.bind_some, News_same, Option.bind_some, refNews_eq 50000 (by decide), Option.bind_some, Same_refl 50000 _ (by omega) (by omega), Option.bind_some, if_pos rfl]
  rfl
end Go.Proofs.Ytoeibcdnhglobaa.Pure
