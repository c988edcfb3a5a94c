/- The count of ones among a number's bits, and how many peaks there are. -/
import Derived.Test.YtoeibcdnhglobaaDoorPureStack
namespace Go.Proofs.YtoeibcdnhglobaaDoor.Pure
set_option linter.unusedVariables false
set_option linter.unusedSimpArgs false
/-- How many ones stand among the bits. -/
def popc (n : Nat) : Nat := if h : n = 0 then 0 else n % 2 + popc (n / 2)
termination_by n
decreasing_by omega
theorem popc_zero : popc 0 = 0 := by rw [popc]; rfl
theorem popc_pos (n : Nat) (h : n ≠ 0) : popc n = n % 2 + popc (n / 2) := by rw [popc]; rw [dif_neg h]
theorem popc_double (n : Nat) : popc (2 * n) = popc n := by
  by_cases h : n = 0
  · subst h; rfl
  · rw [popc_pos _ (by omega), show 2 * n % 2 = 0 by omega, show 2 * n / 2 = n by omega, Nat.zero_add]
theorem popc_pow (m n : Nat) : popc (2 ^ m * n) = popc n := by
  induction m with
  | zero => simp
  | succ m ih => rw [Nat.pow_succ, Nat.mul_comm (2 ^ m) 2, Nat.mul_assoc, popc_double, ih]
theorem Stk.pop {α : Type} {J : α → α → α} {e : α} {j : Nat} {xs st : List α} (h : Stk J e j xs st) : st.length = popc (xs.length / 2 ^ j) := by
  induction h with
  | nil j => simp [popc_zero]
  | cons j k xs ys st h hy hj ih =>
    obtain ⟨q, hq⟩ := h.dvd
    have e2 : xs.length / 2 ^ (k + 1) = q := by rw [hq, Nat.mul_div_cancel_left _ (Nat.two_pow_pos _)]
    rw [e2] at ih
    have e1 : (xs ++ ys).length = 2 ^ j * (2 ^ (k - j) * (2 * q + 1)) := by
      rw [List.length_append, hq, hy, ← Nat.mul_assoc, ← Nat.pow_add, show j + (k - j) = k by omega, Nat.pow_succ, Nat.mul_add, Nat.mul_one, Nat.mul_assoc]
    rw [e1, Nat.mul_div_cancel_left _ (Nat.two_pow_pos _), popc_pow, popc_pos _ (by omega), show (2 * q + 1) % 2 = 1 by omega, show (2 * q + 1) / 2 = q by omega, List.length_cons, ih, Nat.add_comm]
theorem stk_pop {α : Type} (J : α → α → α) (xs : List α) (h : xs.length < 2 ^ 64) : (stk J xs).length = popc xs.length := by
  cases xs with
  | nil => rw [stk_nil]; exact popc_zero.symm
  | cons x r => have := (stk_Stk (J := J) x (x :: r) h).pop; simpa using this
end Go.Proofs.YtoeibcdnhglobaaDoor.Pure
