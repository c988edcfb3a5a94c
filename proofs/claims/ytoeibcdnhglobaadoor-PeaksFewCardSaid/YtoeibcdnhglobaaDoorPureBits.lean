/- The bit identities between the two forms of SHA-256's words. No program in sight. -/
namespace Go.Proofs.YtoeibcdnhglobaaDoor.Pure
set_option linter.unusedVariables false
set_option linter.unusedSimpArgs false
/-- A word of 32 bits turned right by n: the document's form. -/
def rotr (n x : Nat) : Nat := x / 2 ^ n + x % 2 ^ n * 2 ^ (32 - n)
/-- .. as a left turn by 32 - n in bits. -/
theorem rotr_or (n x : Nat) (hn : n ≤ 32) (hx : x < 4294967296) : x * 2 ^ (32 - n) % 4294967296 ||| x / 2 ^ n = rotr n x := by
  have e32 : (4294967296 : Nat) = 2 ^ n * 2 ^ (32 - n) := by rw [← Nat.pow_add, show n + (32 - n) = 32 by omega]
  have h1 : x * 2 ^ (32 - n) % 4294967296 = 2 ^ (32 - n) * (x % 2 ^ n) := by
    rw [e32, Nat.mul_mod_mul_right, Nat.mul_comm]
  have h2 : x / 2 ^ n < 2 ^ (32 - n) := by
    rw [Nat.div_lt_iff_lt_mul (Nat.two_pow_pos n), Nat.mul_comm, ← e32]; exact hx
  rw [h1, ← Nat.two_pow_add_eq_or_of_lt h2]
  unfold rotr
  rw [Nat.mul_comm, Nat.add_comm]
theorem rotr_lt (n x : Nat) (hn : n ≤ 32) (hx : x < 4294967296) : rotr n x < 4294967296 := by
  rw [← rotr_or n x hn hx]
  refine Nat.or_lt_two_pow (n := 32) (Nat.mod_lt _ (by decide)) ?_
  exact Nat.lt_of_le_of_lt (Nat.div_le_self _ _) hx
/-- The choice. -/
def chN (e f g : Nat) : Nat := (e &&& f) ||| ((4294967295 ^^^ e) &&& g)
theorem ch_eq (e f g : Nat) (he : e < 4294967296) (hf : f < 4294967296) (hg : g < 4294967296) : g ^^^ (e &&& (f ^^^ g)) = chN e f g := by
  unfold chN
  apply Nat.eq_of_testBit_eq
  intro i
  simp only [Nat.testBit_xor, Nat.testBit_and, Nat.testBit_or]
  rw [show (4294967295 : Nat) = 2 ^ 32 - 1 from rfl, Nat.testBit_two_pow_sub_one]
  by_cases hi : i < 32
  · simp only [hi, decide_true]
    cases e.testBit i <;> cases f.testBit i <;> cases g.testBit i <;> rfl
  · have z : ∀ x : Nat, x < 4294967296 → x.testBit i = false := fun x hx => Nat.testBit_lt_two_pow (Nat.lt_of_lt_of_le hx (Nat.pow_le_pow_right (n := 2) (by decide) (show 32 ≤ i by omega)))
    rw [z e he, z f hf, z g hg]
    simp
/-- The most. -/
def majN (a b c : Nat) : Nat := (a &&& b) ||| (a &&& c) ||| (b &&& c)
theorem maj_eq (a b c : Nat) : (a &&& b) ||| (c &&& (a ||| b)) = majN a b c := by
  unfold majN
  apply Nat.eq_of_testBit_eq
  intro i
  simp only [Nat.testBit_and, Nat.testBit_or]
  cases a.testBit i <;> cases b.testBit i <;> cases c.testBit i <;> rfl
theorem chN_lt (e f g : Nat) (he : e < 4294967296) (hf : f < 4294967296) (hg : g < 4294967296) : chN e f g < 4294967296 := by
  rw [← ch_eq e f g he hf hg]
  exact Nat.xor_lt_two_pow (n := 32) hg (Nat.and_lt_two_pow _ (Nat.xor_lt_two_pow (n := 32) hf hg))
theorem majN_lt (a b c : Nat) (ha : a < 4294967296) (hb : b < 4294967296) (hc : c < 4294967296) : majN a b c < 4294967296 := by
  unfold majN
  exact Nat.or_lt_two_pow (n := 32) (Nat.or_lt_two_pow (n := 32) (Nat.and_lt_two_pow _ hb) (Nat.and_lt_two_pow _ hc)) (Nat.and_lt_two_pow _ hc)
/-- A shift right is a division. -/
theorem shr_eq (x n : Nat) : x >>> n = x / 2 ^ n := Nat.shiftRight_eq_div_pow x n
/-- Three turns. -/
def sig (a b c x : Nat) : Nat := rotr a x ^^^ rotr b x ^^^ rotr c x
/-- Two turns and a shift. -/
def sigS (a b c x : Nat) : Nat := rotr a x ^^^ rotr b x ^^^ (x / 2 ^ c)
theorem sig_lt (a b c x : Nat) (ha : a ≤ 32) (hb : b ≤ 32) (hc : c ≤ 32) (hx : x < 4294967296) : sig a b c x < 4294967296 :=
  Nat.xor_lt_two_pow (n := 32) (Nat.xor_lt_two_pow (n := 32) (rotr_lt a x ha hx) (rotr_lt b x hb hx)) (rotr_lt c x hc hx)
theorem sigS_lt (a b c x : Nat) (ha : a ≤ 32) (hb : b ≤ 32) (hx : x < 4294967296) : sigS a b c x < 4294967296 :=
  Nat.xor_lt_two_pow (n := 32) (Nat.xor_lt_two_pow (n := 32) (rotr_lt a x ha hx) (rotr_lt b x hb hx)) (Nat.lt_of_le_of_lt (Nat.div_le_self _ _) hx)
end Go.Proofs.YtoeibcdnhglobaaDoor.Pure
