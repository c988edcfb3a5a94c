/- The document's peaks are the counter's, the first first. -/
import Derived.Test.YtoeibcdnhglobaaDoorPureStack
namespace Go.Proofs.YtoeibcdnhglobaaDoor.Pure
set_option linter.unusedVariables false
set_option linter.unusedSimpArgs false
section
variable {α : Type} (J : α → α → α) (e : α)
/-- The greatest whole tree first. -/
inductive Pk : List α → List α → Prop
  | nil : Pk [] []
  | cons (j : Nat) (xs rest out : List α) (hx : xs.length = 2 ^ j) (hr : rest.length < 2 ^ j) (h : Pk rest out) : Pk (xs ++ rest) (Tree J e xs :: out)
variable {J e}
theorem Pk.snoc {k : Nat} {ys : List α} (hy : ys.length = 2 ^ k) {xs out : List α} (h : Pk J e xs out) : 2 ^ (k + 1) ∣ xs.length → Pk J e (xs ++ ys) (out ++ [Tree J e ys]) := by
  have hp : 0 < 2 ^ k := Nat.two_pow_pos k
  have hs : 2 ^ (k + 1) = 2 ^ k * 2 := Nat.pow_succ 2 k
  induction h with
  | nil =>
    intro _
    have := Pk.cons (J := J) (e := e) k ys [] [] hy (by simpa using hp) .nil
    simpa using this
  | cons j xs rest out hx hr h ih =>
    intro hd
    rw [List.length_append, hx] at hd
    have hkj : k + 1 ≤ j := by
      rcases Nat.lt_or_ge j (k + 1) with hlt | hge
      · exfalso
        have h1 : 2 ^ j ≤ 2 ^ k := Nat.pow_le_pow_right (by decide) (by omega)
        have h2 := Nat.le_of_dvd (by have := Nat.two_pow_pos j; omega) hd
        omega
      · exact hge
    have hdj : 2 ^ (k + 1) ∣ 2 ^ j := Nat.pow_dvd_pow 2 hkj
    have hdr : 2 ^ (k + 1) ∣ rest.length := (Nat.dvd_add_right hdj).1 hd
    have hlt : (rest ++ ys).length < 2 ^ j := by
      rw [List.length_append, hy]
      obtain ⟨a, ha⟩ := hdj
      obtain ⟨b, hb⟩ := hdr
      rw [ha, hb] at hr
      have hab : b < a := Nat.lt_of_mul_lt_mul_left hr
      have h3 : 2 ^ (k + 1) * (b + 1) ≤ 2 ^ (k + 1) * a := Nat.mul_le_mul_left _ hab
      rw [ha, hb]
      rw [Nat.mul_add, Nat.mul_one] at h3
      omega
    have := Pk.cons (J := J) (e := e) j xs (rest ++ ys) _ hx hlt (ih hdr)
    simpa using this
theorem Pk.of_stk {j : Nat} {xs st : List α} (h : Stk J e j xs st) : Pk J e xs st.reverse := by
  induction h with
  | nil => exact .nil
  | cons j k xs ys st h hy hj ih =>
    have := ih.snoc hy h.dvd
    simpa using this
theorem Pk.unique : ∀ (n : Nat) (l o1 o2 : List α), l.length ≤ n → Pk J e l o1 → Pk J e l o2 → o1 = o2 := by
  intro n
  induction n with
  | zero =>
    intro l o1 o2 hl h1 h2
    obtain rfl : l = [] := List.length_eq_zero_iff.1 (by omega)
    have key : ∀ {l o : List α}, Pk J e l o → l = [] → o = [] := fun h hl => by
      cases h with
      | nil => rfl
      | cons j xs rest out hx hr h =>
        exfalso
        have := congrArg List.length hl
        rw [List.length_append, hx] at this
        have := Nat.two_pow_pos j
        simp only [List.length_nil] at *
        omega
    rw [key h1 rfl, key h2 rfl]
  | succ n ih =>
    intro l o1 o2 hl h1 h2
    cases h1 with
    | nil =>
      generalize hl0 : ([] : List α) = l0 at h2
      cases h2 with
      | nil => rfl
      | cons j xs rest out hx hr h =>
        exfalso
        have := congrArg List.length hl0
        rw [List.length_append, hx] at this
        have := Nat.two_pow_pos j
        simp only [List.length_nil] at *
        omega
    | cons j xs rest out hx hr h =>
      generalize hl0 : xs ++ rest = l0 at h2 hl
      cases h2 with
      | nil =>
        exfalso
        have := congrArg List.length hl0
        rw [List.length_append, hx] at this
        have := Nat.two_pow_pos j
        simp only [List.length_nil] at *
        omega
      | cons j2 xs2 rest2 out2 hx2 hr2 h2 =>
        have hlen := congrArg List.length hl0
        rw [List.length_append, List.length_append, hx, hx2] at hlen
        have hjj : j = j2 := by
          rcases Nat.lt_trichotomy j j2 with c | c | c
          · exfalso
            have : 2 ^ (j + 1) ≤ 2 ^ j2 := Nat.pow_le_pow_right (by decide) c
            rw [Nat.pow_succ] at this
            omega
          · exact c
          · exfalso
            have : 2 ^ (j2 + 1) ≤ 2 ^ j := Nat.pow_le_pow_right (by decide) c
            rw [Nat.pow_succ] at this
            omega
        subst hjj
        obtain ⟨rfl, rfl⟩ := List.append_inj hl0 (by rw [hx, hx2])
        have hp := Nat.two_pow_pos j
        rw [ih rest out out2 (by rw [List.length_append, hx] at hl; omega) h h2]
theorem stk_Pk (xs out : List α) (hl : xs.length < 2 ^ 64) (h : Pk J e xs out) : (stk J xs).reverse = out :=
  Pk.unique xs.length xs _ _ (Nat.le_refl _) (Pk.of_stk (stk_Stk e xs hl)) h
end
end Go.Proofs.YtoeibcdnhglobaaDoor.Pure
