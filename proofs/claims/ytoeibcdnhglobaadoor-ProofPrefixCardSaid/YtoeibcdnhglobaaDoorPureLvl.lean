/- The levels of a tree: pairs joined, level by level. No program in sight. -/
import Derived.Test.YtoeibcdnhglobaaDoorE0
namespace Go.Proofs.YtoeibcdnhglobaaDoor.Pure
set_option linter.unusedVariables false
set_option linter.unusedSimpArgs false
section
variable {α : Type} (J : α → α → α)
/-- Pairs joined; one that is left over is dropped. -/
def up : List α → List α
  | a :: b :: r => J a b :: up r
  | _ => []
def lvl (h : List α) : Nat → List α
  | 0 => h
  | j + 1 => up J (lvl h j)
theorem up_length : ∀ (l : List α), (up J l).length = l.length / 2
  | [] => by simp [up]
  | [_] => by simp [up]
  | a :: b :: r => by simp only [up, List.length_cons, up_length r]; omega
theorem up_get : ∀ (l : List α) (i : Nat) (h1 : i < (up J l).length) (h2 : 2 * i < l.length) (h3 : 2 * i + 1 < l.length), (up J l)[i] = J l[2 * i] l[2 * i + 1]
  | [], i, h1, h2, h3 => absurd h2 (Nat.not_lt_zero _)
  | [_], i, h1, h2, h3 => by simp only [List.length_singleton] at h3; omega
  | a :: b :: r, 0, _, _, _ => rfl
  | a :: b :: r, i + 1, h1, h2, h3 => by
    have h4 : 2 * (i + 1) = 2 * i + 1 + 1 := by omega
    have ih := up_get r i (by simpa [up] using h1) (by simp only [List.length_cons] at h2; omega) (by simp only [List.length_cons] at h3; omega)
    simp only [up, h4, List.getElem_cons_succ]
    exact ih
theorem up_snoc (l : List α) (i : Nat) (h : 2 * i + 1 < l.length) : up J (l.take (2 * (i + 1))) = up J (l.take (2 * i)) ++ [J l[2 * i] l[2 * i + 1]] := by
  apply List.ext_getElem
  · rw [List.length_append, up_length, up_length, List.length_take, List.length_take, List.length_singleton]; omega
  · intro k h1 h2
    have hl1 : (up J (l.take (2 * (i + 1)))).length = i + 1 := by rw [up_length, List.length_take]; omega
    have hl2 : (up J (l.take (2 * i))).length = i := by rw [up_length, List.length_take]; omega
    rw [up_get J _ k h1 (by rw [List.length_take]; omega) (by rw [List.length_take]; omega)]
    by_cases hk : k < i
    · rw [List.getElem_append_left (by omega), up_get J _ k (by omega) (by rw [List.length_take]; omega) (by rw [List.length_take]; omega)]
      simp
    · obtain rfl : k = i := by omega
      rw [List.getElem_append_right (by omega)]
      simp [hl2]
theorem up_take (l : List α) (m : Nat) (hm : l.length ≤ m + 1) (he : m % 2 = 0) : up J (l.take m) = up J l := by
  rcases Nat.lt_or_ge m l.length with h | h
  · apply List.ext_getElem
    · rw [up_length, up_length, List.length_take]; omega
    · intro k h1 h2
      rw [up_length, List.length_take] at h1
      rw [up_get J _ k (by rw [up_length, List.length_take]; omega) (by rw [List.length_take]; omega) (by rw [List.length_take]; omega), up_get J _ k h2 (by omega) (by omega)]
      simp
  · rw [List.take_of_length_le h]
theorem lvl_length (h : List α) : ∀ j, (lvl J h j).length = h.length / 2 ^ j
  | 0 => by simp [lvl]
  | j + 1 => by rw [lvl, up_length, lvl_length h j, Nat.div_div_eq_div_mul, Nat.pow_succ]
/-- A node of the tree: what the leaves below it make. -/
theorem lvl_get (e : α) (h : List α) : ∀ (j i : Nat) (hi : i < (lvl J h j).length), (lvl J h j)[i] = Tree J e ((h.drop (i * 2 ^ j)).take (2 ^ j))
  | 0, i, hi => by
    have hi' : i < h.length := hi
    have : (h.drop (i * 2 ^ 0)).take (2 ^ 0) = [h[i]] := by
      rw [Nat.pow_zero, Nat.mul_one, List.drop_eq_getElem_cons hi']; rfl
    rw [this]
    rfl
  | j + 1, i, hi => by
    have hp : 0 < 2 ^ j := Nat.two_pow_pos j
    have hl := lvl_length J h j
    have hl1 := lvl_length J h (j + 1)
    have hle : (i + 1) * 2 ^ (j + 1) ≤ h.length := by
      have h2 : i + 1 ≤ h.length / 2 ^ (j + 1) := by omega
      exact (Nat.le_div_iff_mul_le (Nat.two_pow_pos _)).1 h2
    have e1 : (i + 1) * 2 ^ (j + 1) = i * 2 ^ (j + 1) + 2 ^ (j + 1) := Nat.succ_mul _ _
    have e2 : 2 ^ (j + 1) = 2 ^ j + 2 ^ j := by rw [Nat.pow_succ]; omega
    have e3 : 2 * i * 2 ^ j = i * 2 ^ (j + 1) := by rw [Nat.pow_succ, Nat.mul_comm 2 i, Nat.mul_assoc, Nat.mul_comm 2]
    have e4 : (2 * i + 1) * 2 ^ j = i * 2 ^ (j + 1) + 2 ^ j := by rw [Nat.succ_mul, e3]
    have hb : 2 * i + 1 < (lvl J h j).length := by
      rw [hl]
      refine Nat.lt_of_lt_of_le (Nat.lt_succ_self _) ((Nat.le_div_iff_mul_le hp).2 ?_)
      rw [show (2 * i + 1).succ = 2 * (i + 1) by omega, Nat.mul_comm 2, Nat.mul_assoc, ← Nat.pow_succ']
      exact hle
    show (up J (lvl J h j))[i] = _
    rw [up_get J _ i hi (by omega) hb, lvl_get e h j _ (by omega), lvl_get e h j _ hb, e3, e4]
    rw [← Tree_join J e _ _ (j := j) (by rw [List.length_take, List.length_drop]; omega) (by rw [List.length_take, List.length_drop]; omega) (by rw [List.length_take, List.length_drop]; omega)]
    congr 1
    rw [e2, List.take_add, List.drop_drop]
/-- How many levels: till one is left, or none. -/
def depth : Nat → Nat → Nat
  | 0, _ => 1
  | f + 1, n => if n ≤ 1 then 1 else 1 + depth f (n / 2)
end
end Go.Proofs.YtoeibcdnhglobaaDoor.Pure
