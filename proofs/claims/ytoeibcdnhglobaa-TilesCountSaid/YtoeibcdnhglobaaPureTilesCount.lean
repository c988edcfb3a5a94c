/- For every size: the widths of all entry tiles, and of the tiles of level 0, add up to the leaves; the tiles new from none are all. -/
import Derived.Test.YtoeibcdnhglobaaPx6
import Derived.OpenShut
namespace Go.Proofs.Ytoeibcdnhglobaa.Pure
set_option linter.unusedVariables false
set_option linter.unusedSimpArgs false
open Go.RowKit Go.Proofs.Ytoeibcdnhglobaa.P Go.Proofs.YtoeibcdnhglobaaW.PrintWords Go.Proofs.YtoeibcdnhglobaaW.PrintLast

/-- The widths of a level's tiles, added up. -/
def sumW (l : Int) : List S30 → Int
  | [] => 0
  | x :: r => (if x.f0 = l then x.f2 else 0) + sumW l r
theorem sumW_append (l : Int) (a b : List S30) : sumW l (a ++ b) = sumW l a + sumW l b := by
  induction a with
  | nil => simp [sumW]
  | cons x a ih => simp only [List.cons_append, sumW, ih]; omega
theorem sumW_other (l m : Int) (h : m ≠ l) (n : Int) : sumW l (rowT n m) = 0 := by
  unfold rowT
  induction List.range (cnt n m) with
  | nil => rfl
  | cons i r ih => simp only [List.map_cons, sumW, ih]; rw [if_neg h]; rfl
theorem sumW_row (n l : Int) (h : okT n l) : sumW l (rowT n l) = lv n l := by
  have hb := lv_bd h
  have hc : cnt n l = ((lv n l + 255) / 256).toNat := by unfold cnt; rw [if_pos h]
  have key : ∀ c, c ≤ cnt n l → sumW l ((rowT n l).take c) = min (lv n l) (256 * c) := by
    intro c
    induction c with
    | zero => intro _; simp [sumW]; omega
    | succ c ih =>
      intro hlt
      rw [rowT_take _ _ _ (by omega), sumW_append, ih (by omega)]
      have hw : Wd n l c = max 0 (min (lv n l - 256 * c) 256) := by
        unfold Wd
        rw [if_pos ⟨h, by omega, by have := cnt_le n l; omega⟩]
      simp only [sumW, if_true, hw]
      omega
  have := key (cnt n l) (Nat.le_refl _)
  rw [List.take_of_length_le (by rw [rowT_length]; omega)] at this
  rw [this]
  omega
theorem lv_zero (n : Int) : lv n (-1) = n ∧ lv n 0 = n := by
  unfold lv
  constructor
  · show n / 256 ^ 0 = n
    simp
  · show n / 256 ^ 0 = n
    simp
theorem tilesT_rows (n : Int) : tilesT n = rowT n (-1) ++ (rowT n 0 ++ (rowT n 1 ++ (rowT n 2 ++ (rowT n 3 ++ (rowT n 4 ++ rowT n 5))))) := by
  rw [← upTo_7]
  simp only [upTo_succ, List.append_assoc]
  rfl
theorem sumW_all (n : Int) (h0 : 0 ≤ n) (h1 : n ≤ 1048576) : sumW (-1) (tilesT n) = n ∧ sumW 0 (tilesT n) = n := by
  rw [tilesT_rows]
  simp only [sumW_append]
  have o : ∀ l m : Int, m ≠ l → sumW l (rowT n m) = 0 := fun l m h => sumW_other l m h n
  rw [o (-1) 0 (by decide), o (-1) 1 (by decide), o (-1) 2 (by decide), o (-1) 3 (by decide), o (-1) 4 (by decide), o (-1) 5 (by decide), sumW_row n (-1) ⟨h0, h1, by decide, by decide⟩,
    o 0 (-1) (by decide), o 0 1 (by decide), o 0 2 (by decide), o 0 3 (by decide), o 0 4 (by decide), o 0 5 (by decide), sumW_row n 0 ⟨h0, h1, by decide, by decide⟩, (lv_zero n).1, (lv_zero n).2]
  simp [sumW]
/-- What is known of each tile. -/
def good (n : Int) (x : S30) : Prop := x.f2 = Wd n x.f0 x.f1 ∧ 0 < x.f2 ∧ x.f2 ≤ 256 ∧ 0 ≤ x.f1
theorem tilesT_good (n : Int) (x : S30) (h : x ∈ tilesT n) : good n x := by
  obtain ⟨j, hj, hx⟩ := List.mem_flatMap.1 h
  obtain ⟨i, hi, rfl⟩ := List.mem_map.1 hx
  have hc := List.mem_range.1 hi
  have hp := (Wd_pos_iff n ((j : Int) - 1) i).2 hc
  exact ⟨rfl, hp, (Wd_bd _ _ _).2, by show (0 : Int) ≤ i; omega⟩
theorem Wd_of_zero (l i : Int) (h : 0 ≤ i) : Wd 0 l i = 0 := by
  unfold Wd
  split
  · have : lv 0 l = 0 := by unfold lv; simp
    rw [this]
    omega
  · rfl
theorem news_zero (n : Int) : newsT 0 (tilesT n) = tilesT n := by
  unfold newsT
  rw [List.filter_eq_self]
  intro x hx
  obtain ⟨h1, h2, h3, h4⟩ := tilesT_good n x hx
  rw [Wd_of_zero _ _ h4]
  simp
  omega
theorem news_self (n : Int) : newsT n (tilesT n) = [] := by
  unfold newsT
  rw [List.filter_eq_nil_iff]
  intro x hx
  have h := (tilesT_good n x hx).1
  simp [← h]
theorem sum_bd (n : Int) (l : Int) (xs : List S30) (h : ∀ x ∈ xs, good n x) : 0 ≤ sumW l xs ∧ sumW l xs ≤ 256 * xs.length := by
  induction xs with
  | nil => simp [sumW]
  | cons x r ih =>
    have h1 := ih (fun y hy => h y (List.mem_cons_of_mem _ hy))
    obtain ⟨_, h2, h3, _⟩ := h x List.mem_cons_self
    simp only [sumW, List.length_cons]
    split <;> omega
theorem sumW_one_yes (l : Int) (x : S30) (h : x.f0 = l) : sumW l [x] = x.f2 := by simp [sumW, h]
theorem sumW_one_no (l : Int) (x : S30) (h : ¬ x.f0 = l) : sumW l [x] = 0 := by simp [sumW, h]
attribute [local irreducible] sumW Wd
theorem count_loop (n : Int) (L : List S30) (h0 : 0 ≤ n) (h1 : n ≤ 131072) (hlen : L.length ≤ 28672) (hgood : ∀ x ∈ L, good n x) (hs : sumW (-1) L = n ∧ sumW 0 L = n)
    (hn0 : newsT 0 L = L) (hn1 : newsT n L = []) (hL : tilesT n = L) (d : Nat) : ∀ (k i : Nat), i ≤ L.length → L.length - i = d → 40000 + 2 * d ≤ k →
    pantilelaw12_TilesCount.l0 k n L (sumW (-1) (L.take i)) (sumW 0 (L.take i)) i = some true := by
  have e0 : tiles_News.f 0 n = some L := by
    unfold tiles_News.f; rw [if_pos (by omega), hL, hn0]
  have e1 : tiles_News.f n n = some [] := by
    unfold tiles_News.f; rw [if_pos (by omega), hL, hn1]
  clear hL
  induction d with
  | zero =>
    intro k i hi hd hk
    obtain ⟨k, rfl⟩ : ∃ q, k = q + 1 := ⟨k - 1, by omega⟩
    simp only [pantilelaw12_TilesCount.l0]
    have p : ¬ (i : Int) < (L.length : Int) := by omega
    rw [if_neg p, List.take_of_length_le (by omega), hs.1, hs.2]
    rw [e0, Option.bind_some, Same_refl k _ (by omega) (by omega), Option.bind_some, if_pos rfl, if_pos rfl, if_pos rfl, e1, Option.bind_some]
    simp [pantilelaw12_lives.f]
  | succ d ih =>
    intro k i hi hd hk
    obtain ⟨k, rfl⟩ : ∃ q, k = q + 2 := ⟨k - 2, by omega⟩
    have hlt : i < L.length := by omega
    have p1 : (0 : Int) ≤ (i : Int) := by omega
    have p2 : (i : Int) < (L.length : Int) := by omega
    have hrd : rd_T30 L (i : Int) = L[i] := by simp [rd_T30, List.getD_eq_getElem?_getD, hlt]
    have hts : L.take (i + 1) = L.take i ++ [L[i]] := List.take_succ_eq_append_getElem hlt
    obtain ⟨g1, g2, g3, g4⟩ := hgood _ (List.getElem_mem hlt)
    have ihn := ih k (i + 1) (by omega) (by omega) (by omega)
    have hb := fun l => sum_bd n l (L.take i) (fun x hx => hgood x (List.mem_of_mem_take hx))
    have hb1 := hb (-1)
    have hb2 := hb 0
    rw [List.length_take] at hb1 hb2
    rw [hts, sumW_append, sumW_append] at ihn
    have hi1 : wrap64 ((i : Int) + 1) = ((i + 1 : Nat) : Int) := by rw [wrap64_id (by omega) (by omega)]; rfl
    clear g1 hgood hb hn0 hn1 e0 e1 hs hts ih
    have yes := fun l => sumW_one_yes l L[i]
    have no := fun l => sumW_one_no l L[i]
    generalize L[i] = y at hrd g2 g3 ihn yes no
    generalize sumW (-1) (L.take i) = a at hb1 ihn
    generalize sumW 0 (L.take i) = b at hb2 ihn
    have q0 : ¬ y.f2 < 1 := by omega
    have q1 : ¬ 256 < y.f2 := by omega
    have ba : wrap64 (a + y.f2) = a + y.f2 := wrap64_id (by omega) (by omega)
    have bb : wrap64 (b + y.f2) = b + y.f2 := wrap64_id (by omega) (by omega)
    clear g2 g3 hb1 hb2 hd hk hlen h0 h1
    have hj : ∀ u, u = a + sumW (-1) [y] → pantilelaw12_TilesCount.j2 (k + 1) n L u b i = some true := by
      rintro u rfl
      simp only [pantilelaw12_TilesCount.j2]
      rw [if_pos p1, if_pos p2, hrd, hi1]
      by_cases c : y.f0 = 0
      · rw [if_pos c, if_neg q0, if_neg q1, bb]
        rw [yes 0 c] at ihn
        exact ihn
      · rw [if_neg c, if_neg q0, if_neg q1]
        rw [no 0 c, Int.add_zero] at ihn
        exact ihn
    simp only [pantilelaw12_TilesCount.l0]
    rw [if_pos p2, if_pos p1, hrd]
    by_cases c : y.f0 = -1
    · rw [if_pos c, ba]
      exact hj _ (by rw [yes _ c])
    · rw [if_neg c]
      exact hj _ (by rw [no _ c, Int.add_zero])
attribute [local semireducible] sumW Wd
theorem TilesCount : pantilelaw12_TilesCount.Pure := by
  intro a h
  have b := bounds_i64 h
  obtain ⟨K, hK⟩ : ∃ K : Nat, 150000 ≤ K := ⟨_, Nat.le_refl _⟩
  refine ⟨K + 1, ?_⟩
  have key : ∀ x : Int, 0 ≤ x → pantilelaw12_TilesCount.j0 (K + 1) x = some true := by
    intro x hx
    simp only [pantilelaw12_TilesCount.j0]
    rw [Int.tmod_eq_emod_of_nonneg hx]
    unfold tiles_All.f
    rw [Option.bind_some]
    have hl := tilesT_len (x % 131073)
    have := count_loop (x % 131073) (tilesT (x % 131073)) (by omega) (by omega) (by omega) (tilesT_good _) (sumW_all _ (by omega) (by omega)) (news_zero _) (news_self _) rfl (tilesT (x % 131073)).length K 0 (by omega) (by omega) (by omega)
    have z : ∀ l : Int, sumW l ((tilesT (x % 131073)).take 0) = 0 := fun l => by rw [List.take_zero]; rfl
    rw [z, z] at this
    exact this
  unfold pantilelaw12_TilesCount.f
  by_cases c : a < 0
  · rw [if_pos c, wrap64_id (x := a + 1) (by omega) (by omega), wrap64_id (by omega) (by omega)]
    exact key _ (by omega)
  · rw [if_neg c]
    exact key _ (by omega)
end Go.Proofs.Ytoeibcdnhglobaa.Pure
