/- A binary counter of trees: what a range of peaks holds, by plain lists. No program in sight. -/
import Derived.Lib.TrailingZeros
namespace Go.Proofs.YtoeibcdnhglobaaDoor.Pure
set_option linter.unusedVariables false
set_option linter.unusedSimpArgs false
open Go.Lib

/-- The trailing ones of n, among f bits. -/
def tn : Nat → Nat → Nat
  | 0, _ => 0
  | f + 1, n => if n % 2 = 1 then 1 + tn f (n / 2) else 0
theorem ctzFrom_tn : ∀ (f n : Nat), n < 2 ^ f - 1 → ctzFrom f (2 ^ f - 1 - n) = tn f n
  | 0, n, h => by simp at h
  | f + 1, n, h => by
    have hp : 0 < 2 ^ f := Nat.two_pow_pos f
    rw [Nat.pow_succ] at h ⊢
    unfold ctzFrom tn
    by_cases c : n % 2 = 1
    · rw [if_neg (by omega), if_pos c, show (2 ^ f * 2 - 1 - n) / 2 = 2 ^ f - 1 - n / 2 by omega, ctzFrom_tn f (n / 2) (by omega)]
    · rw [if_pos (by omega), if_neg c]
theorem ctz_tn (n : Nat) (h : n < 9223372036854775808) : ctz 64 (18446744073709551615 - n) = tn 64 n := by
  unfold ctz
  rw [if_neg (by omega)]
  exact ctzFrom_tn 64 n (by omega)
theorem tn_le : ∀ f n, tn f n ≤ f
  | 0, _ => Nat.le_refl _
  | f + 1, n => by
    unfold tn
    split
    · have := tn_le f (n / 2); omega
    · omega
theorem tn_zero : ∀ f, tn f 0 = 0
  | 0 => rfl
  | f + 1 => by simp [tn]

section
variable {α : Type} (J : α → α → α)
/-- One tree more, t times joined with the one before. -/
def merge : Nat → α → List α → List α
  | 0, h, st => h :: st
  | _ + 1, h, [] => [h]
  | t + 1, h, p :: st => merge t (J p h) st
/-- The peaks, the last first, of what was added, the last first. -/
def stkR : List α → List α
  | [] => []
  | h :: r => merge J (tn 64 r.length) h (stkR r)
/-- The peaks, the last first. -/
def stk (xs : List α) : List α := stkR J xs.reverse
theorem stk_nil : stk J [] = [] := rfl
theorem stk_snoc (xs : List α) (h : α) : stk J (xs ++ [h]) = merge J (tn 64 xs.length) h (stk J xs) := by
  unfold stk
  rw [List.reverse_append]
  show merge J (tn 64 xs.reverse.length) h (stkR J xs.reverse) = _
  rw [List.length_reverse]

/-- The half of a tree of n: the greatest power of two below n. -/
def half (n : Nat) : Nat := 2 ^ Nat.log2 (n - 1)
theorem half_at {j m : Nat} (h0 : 0 < m) (h1 : m ≤ 2 ^ j) : half (2 ^ j + m) = 2 ^ j := by
  unfold half
  congr 1
  have hp : 0 < 2 ^ j := Nat.two_pow_pos j
  rw [Nat.log2_eq_iff (by omega)]
  rw [Nat.pow_succ]
  omega
theorem half_lt {n : Nat} (h : 2 ≤ n) : 0 < half n ∧ half n < n := by
  unfold half
  refine ⟨Nat.two_pow_pos _, ?_⟩
  have := (Nat.log2_eq_iff (n := n - 1) (k := Nat.log2 (n - 1)) (by omega)).1 rfl
  omega
/-- The tree of a list, by its definition. -/
def tree (e : α) : Nat → List α → α
  | 0, _ => e
  | _ + 1, [] => e
  | _ + 1, [x] => x
  | f + 1, x :: y :: r => J (tree e f ((x :: y :: r).take (half (r.length + 2)))) (tree e f ((x :: y :: r).drop (half (r.length + 2))))
theorem tree_more (e : α) : ∀ (f g : Nat) (l : List α), l.length ≤ f → f ≤ g → tree J e g l = tree J e f l
  | f, g, [], _, _ => by cases f <;> cases g <;> rfl
  | 0, _, _ :: _, h, _ => by simp at h
  | f + 1, 0, _, _, h => by omega
  | f + 1, g + 1, [x], _, _ => rfl
  | f + 1, g + 1, x :: y :: r, h, hg => by
    have hh := half_lt (n := r.length + 2) (by omega)
    simp only [List.length_cons] at h
    unfold tree
    rw [tree_more e f g _ (by simp only [List.length_take, List.length_cons]; omega) (by omega), tree_more e f g _ (by simp only [List.length_drop, List.length_cons]; omega) (by omega)]
/-- The tree of a list. -/
def Tree (e : α) (l : List α) : α := tree J e l.length l
theorem Tree_one (e x : α) : Tree J e [x] = x := rfl
theorem Tree_two (e : α) (l : List α) (h : 2 ≤ l.length) : Tree J e l = J (Tree J e (l.take (half l.length))) (Tree J e (l.drop (half l.length))) := by
  match l, h with
  | x :: y :: r, _ =>
    have hh := half_lt (n := r.length + 2) (by omega)
    show tree J e (r.length + 1 + 1) _ = _
    unfold tree
    unfold Tree
    simp only [List.length_cons, Nat.add_assoc, Nat.reduceAdd]
    rw [tree_more J e _ (r.length + 1) _ (Nat.le_refl _) (by simp only [List.length_take, List.length_cons]; omega), tree_more J e _ (r.length + 1) _ (Nat.le_refl _) (by simp only [List.length_drop, List.length_cons]; omega)]
theorem Tree_join (e : α) {j : Nat} (xs ys : List α) (hx : xs.length = 2 ^ j) (h0 : 0 < ys.length) (h1 : ys.length ≤ 2 ^ j) : Tree J e (xs ++ ys) = J (Tree J e xs) (Tree J e ys) := by
  have hp : 0 < 2 ^ j := Nat.two_pow_pos j
  rw [Tree_two J e (xs ++ ys) (by rw [List.length_append]; omega), List.length_append, hx, half_at h0 h1, ← hx, List.take_left, List.drop_left]

/-- What the peaks are: trees of 2^k leaves, k growing downward; the last first. -/
inductive Stk (e : α) : Nat → List α → List α → Prop
  | nil (k : Nat) : Stk e k [] []
  | cons (j k : Nat) (xs ys st : List α) (h : Stk e (k + 1) xs st) (hy : ys.length = 2 ^ k) (hj : j ≤ k) : Stk e j (xs ++ ys) (Tree J e ys :: st)
variable {J}
theorem Stk.le {e : α} {j i : Nat} {xs st : List α} (h : Stk J e j xs st) (hi : i ≤ j) : Stk J e i xs st := by
  cases h with
  | nil => exact .nil _
  | cons _ k xs ys st h hy hj => exact .cons _ k xs ys st h hy (by omega)
theorem Stk.dvd {e : α} {j : Nat} {xs st : List α} (h : Stk J e j xs st) : 2 ^ j ∣ xs.length := by
  induction h with
  | nil => exact ⟨0, rfl⟩
  | cons j k xs ys st h hy hj ih =>
    rw [List.length_append, hy]
    exact Nat.dvd_trans (Nat.pow_dvd_pow 2 hj) (Nat.dvd_add (Nat.dvd_trans (Nat.pow_dvd_pow 2 (Nat.le_succ k)) ih) ⟨1, by omega⟩)
theorem Stk.merged {e : α} : ∀ (f j : Nat) (xs st ys : List α), Stk J e j xs st → ys.length = 2 ^ j → xs.length / 2 ^ j < 2 ^ f → Stk J e j (xs ++ ys) (merge J (tn f (xs.length / 2 ^ j)) (Tree J e ys) st)
  | f, j, xs, st, ys, h, hy, hf => by
    have hp : 0 < 2 ^ j := Nat.two_pow_pos j
    cases h with
    | nil =>
      have z : tn f (([] : List α).length / 2 ^ j) = 0 := by simp [tn_zero]
      rw [z]
      exact .cons _ j [] ys [] (.nil _) hy (Nat.le_refl _)
    | cons _ k xs zs st h hz hj =>
      obtain ⟨q, hq⟩ := h.dvd
      by_cases hkj : k = j
      · subst hkj
        have e1 : (xs ++ zs).length / 2 ^ k = 2 * q + 1 := by
          rw [List.length_append, hq, hz, Nat.pow_succ]
          have e3 : 2 ^ k * 2 * q + 2 ^ k = 2 ^ k * (2 * q + 1) := by rw [Nat.mul_add, Nat.mul_assoc, Nat.mul_one]
          rw [e3, Nat.mul_div_cancel_left _ hp]
        have e2 : xs.length / 2 ^ (k + 1) = q := by rw [hq, Nat.mul_div_cancel_left _ (Nat.two_pow_pos _)]
        rw [e1] at hf ⊢
        cases f with
        | zero => simp at hf
        | succ f =>
          rw [Nat.pow_succ] at hf
          have ih := Stk.merged f (k + 1) xs st (zs ++ ys) h (by rw [List.length_append, hz, hy, Nat.pow_succ]; omega) (by rw [e2]; omega)
          rw [e2] at ih
          have e4 : tn (f + 1) (2 * q + 1) = tn f q + 1 := by
            show (if (2 * q + 1) % 2 = 1 then 1 + tn f ((2 * q + 1) / 2) else 0) = _
            rw [if_pos (by omega), show (2 * q + 1) / 2 = q by omega, Nat.add_comm]
          rw [e4, List.append_assoc]
          show Stk J e k _ (merge J (tn f q) (J (Tree J e zs) (Tree J e ys)) st)
          rw [← Tree_join J e zs ys hz (by omega) (by omega)]
          exact ih.le (by omega)
      · have e1 : ∃ r, (xs ++ zs).length / 2 ^ j = 2 * r := by
          have hh : Stk J e (j + 1) (xs ++ zs) (Tree J e zs :: st) := .cons _ k xs zs st h hz (by omega)
          obtain ⟨r, hr⟩ := hh.dvd
          refine ⟨r, ?_⟩
          rw [hr, Nat.pow_succ, Nat.mul_assoc, Nat.mul_div_cancel_left _ hp]
        obtain ⟨r, hr⟩ := e1
        rw [hr]
        have e4 : tn f (2 * r) = 0 := by
          cases f with
          | zero => rfl
          | succ f => unfold tn; rw [if_neg (by omega)]
        rw [e4]
        exact .cons _ j (xs ++ zs) ys _ (.cons _ k xs zs st h hz (by omega)) hy (Nat.le_refl _)
theorem stk_Stk (e : α) (xs : List α) (h : xs.length < 2 ^ 64) : Stk J e 0 xs (stk J xs) := by
  have key : ∀ n, n ≤ xs.length → Stk J e 0 (xs.take n) (stk J (xs.take n)) := by
    intro n
    induction n with
    | zero => intro _; exact .nil _
    | succ n ih =>
      intro hn
      rw [List.take_succ_eq_append_getElem (by omega), stk_snoc]
      have := Stk.merged 64 0 _ _ [xs[n]] (ih (by omega)) rfl (by rw [List.length_take]; simp; omega)
      simpa [Tree_one] using this
  simpa using key xs.length (Nat.le_refl _)
/-- How often the next one joins: there are so many peaks. -/
theorem Stk.enough {e : α} : ∀ (f j : Nat) (xs st : List α), Stk J e j xs st → tn f (xs.length / 2 ^ j) ≤ st.length
  | 0, _, _, _, _ => Nat.zero_le _
  | f + 1, j, xs, st, h => by
    have hp : 0 < 2 ^ j := Nat.two_pow_pos j
    unfold tn
    split
    · rename_i ho
      cases h with
      | nil => simp at ho
      | cons _ k xs zs st h hz hj =>
        obtain ⟨q, hq⟩ := h.dvd
        by_cases hkj : k = j
        · subst hkj
          have e1 : (xs ++ zs).length / 2 ^ k = 2 * q + 1 := by
            rw [List.length_append, hq, hz, Nat.pow_succ]
            have e3 : 2 ^ k * 2 * q + 2 ^ k = 2 ^ k * (2 * q + 1) := by rw [Nat.mul_add, Nat.mul_assoc, Nat.mul_one]
            rw [e3, Nat.mul_div_cancel_left _ hp]
          have e2 : xs.length / 2 ^ (k + 1) = q := by rw [hq, Nat.mul_div_cancel_left _ (Nat.two_pow_pos _)]
          have ih := Stk.enough f (k + 1) xs st h
          rw [e2] at ih
          rw [e1, show (2 * q + 1) / 2 = q by omega, List.length_cons]
          omega
        · have hh : Stk J e (j + 1) (xs ++ zs) (Tree J e zs :: st) := .cons _ k xs zs st h hz (by omega)
          obtain ⟨r, hr⟩ := hh.dvd
          rw [hr, Nat.pow_succ, Nat.mul_assoc, Nat.mul_div_cancel_left _ hp] at ho
          omega
    · omega
theorem stk_enough (xs : List α) (h : xs.length < 2 ^ 64) : tn 64 xs.length ≤ (stk J xs).length := by
  cases xs with
  | nil => simp [tn_zero]
  | cons x r => have := (stk_Stk (J := J) x (x :: r) h).enough 64; simpa using this
theorem merge_length (J : α → α → α) : ∀ (t : Nat) (h : α) (st : List α), (merge J t h st).length ≤ st.length + 1
  | 0, _, _ => by simp [merge]
  | _ + 1, _, [] => by simp [merge]
  | t + 1, h, p :: st => by have := merge_length J t (J p h) st; simp only [merge, List.length_cons]; omega
theorem stk_length (J : α → α → α) (xs : List α) : (stk J xs).length ≤ xs.length := by
  have key : ∀ n, n ≤ xs.length → (stk J (xs.take n)).length ≤ n := by
    intro n
    induction n with
    | zero => intro _; simp [stk_nil]
    | succ n ih =>
      intro hn
      rw [List.take_succ_eq_append_getElem (by omega), stk_snoc]
      have := merge_length J (tn 64 (xs.take n).length) xs[n] (stk J (xs.take n))
      have := ih (by omega)
      omega
  simpa using key xs.length (Nat.le_refl _)
/-- The tree's one, of the peaks. -/
def topOf (e : α) (J : α → α → α) : List α → α
  | [] => e
  | p :: st => st.foldl (fun t q => J q t) p
theorem Stk.fold {e : α} : ∀ (j : Nat) (xs st ys : List α), Stk J e j xs st → 0 < ys.length → ys.length ≤ 2 ^ j → st.foldl (fun t q => J q t) (Tree J e ys) = Tree J e (xs ++ ys) := by
  intro j xs st ys h
  induction h generalizing ys with
  | nil => intro _ _; rfl
  | cons j k xs zs st h hz hj ih =>
    intro h0 h1
    have hle : ys.length ≤ 2 ^ k := Nat.le_trans h1 (Nat.pow_le_pow_right (by decide) hj)
    rw [List.foldl_cons, ← Tree_join J e zs ys hz h0 hle, List.append_assoc]
    refine ih (zs ++ ys) (by rw [List.length_append]; omega) ?_
    rw [List.length_append, hz, Nat.pow_succ]
    omega
theorem top_tree (e : α) (xs : List α) (h : xs.length < 2 ^ 64) : topOf e J (stk J xs) = Tree J e xs := by
  have hs := stk_Stk (J := J) e xs h
  generalize stk J xs = st at hs
  cases hs with
  | nil => rfl
  | cons _ k xs ys st h' hy hj => exact h'.fold _ _ _ _ (by rw [hy]; exact Nat.two_pow_pos _) (by rw [hy, Nat.pow_succ]; omega)
end
end Go.Proofs.YtoeibcdnhglobaaDoor.Pure
