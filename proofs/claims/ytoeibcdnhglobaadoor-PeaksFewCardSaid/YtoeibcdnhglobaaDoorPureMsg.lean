/- SHA-256 of a list of bytes over plain numbers: words of bytes, padding, blocks, the digest. No program in sight. -/
import Derived.Test.YtoeibcdnhglobaaDoorPureSha
namespace Go.Proofs.YtoeibcdnhglobaaDoor.Pure
set_option linter.unusedVariables false
set_option linter.unusedSimpArgs false
/-- Bytes as a number, the highest first. -/
def be (l : List Int) : Int := l.foldl (fun n c => n * 256 + c) 0
theorem be_snoc (l : List Int) (c : Int) : be (l ++ [c]) = be l * 256 + c := by simp [be, List.foldl_append]
theorem be_bd (l : List Int) (hb : ∀ x ∈ l, 0 ≤ x ∧ x < 256) : 0 ≤ be l ∧ be l < 256 ^ l.length := by
  have key : ∀ n, n ≤ l.length → 0 ≤ be (l.take n) ∧ be (l.take n) < 256 ^ n := by
    intro n
    induction n with
    | zero => intro _; simp [be]
    | succ n ih =>
      intro hn
      have := ih (by omega)
      have hx := hb l[n] (List.getElem_mem _)
      rw [List.take_succ_eq_append_getElem (by omega), be_snoc, Int.pow_succ]
      omega
  simpa using key l.length (Nat.le_refl _)
/-- A block's sixteen words. -/
def words (l : List Int) : List Nat := (List.range 16).map fun i => (be ((l.drop (4 * i)).take 4)).toNat
theorem words_lt (l : List Int) (hb : ∀ x ∈ l, 0 ≤ x ∧ x < 256) : ∀ x ∈ words l, x < 4294967296 := by
  intro x hx
  obtain ⟨i, _, rfl⟩ := List.mem_map.1 hx
  have hb4 : ∀ x ∈ (l.drop (4 * i)).take 4, 0 ≤ x ∧ x < 256 := fun x hx => hb x (List.mem_of_mem_drop (List.mem_of_mem_take hx))
  have h1 := be_bd _ hb4
  have h2 : ((l.drop (4 * i)).take 4).length ≤ 4 := by rw [List.length_take]; omega
  have h3 : be ((l.drop (4 * i)).take 4) < 4294967296 := by
    have h5 := h1.2
    have h4 : ((l.drop (4 * i)).take 4).length = 0 ∨ ((l.drop (4 * i)).take 4).length = 1 ∨ ((l.drop (4 * i)).take 4).length = 2 ∨ ((l.drop (4 * i)).take 4).length = 3 ∨ ((l.drop (4 * i)).take 4).length = 4 := by omega
    rcases h4 with h4 | h4 | h4 | h4 | h4 <;> rw [h4] at h5 <;> omega
  omega
/-- A state behind n blocks. -/
def runB (s : List Nat) (l : List Int) : Nat → List Nat
  | 0 => s
  | n + 1 => blockN (runB s l n) (words ((l.drop (64 * n)).take 64))
theorem runB_left (s : List Nat) (a b : List Int) (n : Nat) (h : 64 * n ≤ a.length) : runB s (a ++ b) n = runB s a n := by
  induction n with
  | zero => rfl
  | succ n ih =>
    simp only [runB]
    rw [ih (by omega), List.drop_append_of_le_length (by omega), List.take_append_of_le_length (by rw [List.length_drop]; omega)]
theorem runB_append (s : List Nat) (a b : List Int) (q n : Nat) (ha : a.length = 64 * q) : runB s (a ++ b) (q + n) = runB (runB s a q) b n := by
  induction n with
  | zero => exact runB_left s a b q (by omega)
  | succ n ih =>
    rw [← Nat.add_assoc]
    simp only [runB]
    rw [ih, List.drop_append, List.drop_eq_nil_of_le (by omega), List.nil_append, show 64 * (q + n) - a.length = 64 * n by omega]
theorem runB_split (s : List Nat) (l : List Int) (q n : Nat) (h : 64 * q ≤ l.length) : runB s l (q + n) = runB (runB s l q) (l.drop (64 * q)) n := by
  have h1 : (l.take (64 * q)).length = 64 * q := by rw [List.length_take]; omega
  have h2 := runB_append s (l.take (64 * q)) (l.drop (64 * q)) q n h1
  rw [List.take_append_drop] at h2
  rw [h2]
  congr 1
  have := runB_left s (l.take (64 * q)) (l.drop (64 * q)) q (by omega)
  rw [List.take_append_drop] at this
  exact this.symm
theorem stepsN_ok (s ws : List Nat) (hs : s.length = 8 ∧ ∀ x ∈ s, x < 4294967296) (n : Nat) : (stepsN s ws n).length = 8 ∧ ∀ x ∈ stepsN s ws n, x < 4294967296 := by
  induction n with
  | zero => exact hs
  | succ n ih =>
    refine stepN_ok _ _ _ fun i => ?_
    rw [List.getD_eq_getElem?_getD]
    cases h : (stepsN s ws n)[i]? with
    | none => simp
    | some y => exact ih.2 y (List.mem_of_getElem? h)
theorem blockN_ok (s w : List Nat) (hs : s.length = 8 ∧ ∀ x ∈ s, x < 4294967296) : (blockN s w).length = 8 ∧ ∀ x ∈ blockN s w, x < 4294967296 := by
  refine ⟨?_, fun x hx => ?_⟩
  · unfold blockN
    rw [List.length_map, List.length_zip, (stepsN_ok s _ hs 64).1, hs.1]
    rfl
  · unfold blockN at hx
    obtain ⟨p, _, rfl⟩ := List.mem_map.1 hx
    exact Nat.mod_lt _ (by decide)
theorem runB_ok (s : List Nat) (l : List Int) (hs : s.length = 8 ∧ ∀ x ∈ s, x < 4294967296) (n : Nat) : (runB s l n).length = 8 ∧ ∀ x ∈ runB s l n, x < 4294967296 := by
  induction n with
  | zero => exact hs
  | succ n ih => exact blockN_ok _ _ ih
theorem H32_ok : H32.length = 8 ∧ ∀ x ∈ H32, x < 4294967296 := by decide
/-- How many zeros stand behind. -/
def zc (n : Nat) : Nat := (119 - n % 64) % 64
/-- A number's eight bytes, the highest first. -/
def len8 (n : Nat) : List Int := [((n / 72057594037927936 % 256 : Nat) : Int), ((n / 281474976710656 % 256 : Nat) : Int), ((n / 1099511627776 % 256 : Nat) : Int), ((n / 4294967296 % 256 : Nat) : Int), ((n / 16777216 % 256 : Nat) : Int), ((n / 65536 % 256 : Nat) : Int), ((n / 256 % 256 : Nat) : Int), ((n % 256 : Nat) : Int)]
/-- What is left, and what stands behind it, of so many in all. -/
def tailN (r : List Int) (many : Nat) : List Int := r ++ 128 :: (List.replicate (zc r.length) 0 ++ len8 (8 * many))
theorem tailN_length (r : List Int) (many : Nat) : (tailN r many).length = r.length + zc r.length + 9 := by
  simp only [tailN, List.length_append, List.length_cons, List.length_replicate, len8, List.length_nil]; omega
theorem tailN_mod (r : List Int) (many : Nat) : (tailN r many).length % 64 = 0 := by
  rw [tailN_length]; unfold zc; omega
theorem len8_ok (n : Nat) : ∀ x ∈ len8 n, 0 ≤ x ∧ x < 256 := by
  intro x hx
  simp only [len8, List.mem_cons, List.not_mem_nil, or_false] at hx
  rcases hx with rfl | rfl | rfl | rfl | rfl | rfl | rfl | rfl <;> omega
theorem tailN_ok (r : List Int) (many : Nat) (hr : ∀ x ∈ r, 0 ≤ x ∧ x < 256) : ∀ x ∈ tailN r many, 0 ≤ x ∧ x < 256 := by
  intro x hx
  simp only [tailN, List.mem_append, List.mem_cons, List.mem_replicate] at hx
  rcases hx with hx | rfl | ⟨_, rfl⟩ | hx
  · exact hr x hx
  · omega
  · omega
  · exact len8_ok _ x hx
/-- A word's four bytes. -/
def b4 (w : Nat) : List Int := [((w / 16777216 % 256 : Nat) : Int), ((w / 65536 % 256 : Nat) : Int), ((w / 256 % 256 : Nat) : Int), ((w % 256 : Nat) : Int)]
/-- The digest. -/
def shaN (l : List Int) : List Int := ((runB H32 (tailN l l.length) ((tailN l l.length).length / 64)).map b4).flatten
theorem b4_ok (w : Nat) : (b4 w).length = 4 ∧ ∀ x ∈ b4 w, 0 ≤ x ∧ x < 256 := by
  refine ⟨rfl, fun x hx => ?_⟩
  simp only [b4, List.mem_cons, List.not_mem_nil, or_false] at hx
  rcases hx with rfl | rfl | rfl | rfl <;> omega
theorem flat4 (s : List Nat) : ((s.map b4).flatten).length = 4 * s.length := by
  induction s with
  | nil => rfl
  | cons a s ih =>
    rw [List.map_cons, List.flatten_cons, List.length_append, ih, (b4_ok a).1, List.length_cons]
    omega
theorem shaN_ok (l : List Int) : (shaN l).length = 32 ∧ ∀ x ∈ shaN l, 0 ≤ x ∧ x < 256 := by
  refine ⟨?_, fun x hx => ?_⟩
  · unfold shaN; rw [flat4, (runB_ok _ _ H32_ok _).1]
  · unfold shaN at hx
    obtain ⟨y, hy, hx⟩ := List.mem_flatten.1 hx
    obtain ⟨w, _, rfl⟩ := List.mem_map.1 hy
    exact (b4_ok w).2 x hx
/-- What a digest under way has taken in, and what is left, make the digest. -/
theorem shaN_way (l : List Int) (q : Nat) (hq : q = l.length / 64) :
    shaN l = ((runB (runB H32 l q) (tailN (l.drop (64 * q)) l.length) ((tailN (l.drop (64 * q)) l.length).length / 64)).map b4).flatten := by
  unfold shaN
  congr 2
  have hl : 64 * q ≤ l.length := by omega
  have e0 : (l.drop (64 * q)).length = l.length - 64 * q := List.length_drop
  have e1 : zc (l.drop (64 * q)).length = zc l.length := by rw [e0]; unfold zc; omega
  have e2 : tailN l l.length = l.take (64 * q) ++ tailN (l.drop (64 * q)) l.length := by
    unfold tailN
    rw [e1, ← List.append_assoc, List.take_append_drop]
  have h1 : (l.take (64 * q)).length = 64 * q := by rw [List.length_take]; omega
  have e3 : (tailN l l.length).length / 64 = q + (tailN (l.drop (64 * q)) l.length).length / 64 := by
    rw [tailN_length, tailN_length, e1, e0]; omega
  rw [e3, e2, runB_append _ _ _ _ _ h1]
  congr 1
  have := runB_left H32 (l.take (64 * q)) (l.drop (64 * q)) q (by omega)
  rw [List.take_append_drop] at this
  exact this.symm
/-- The empty text's digest begins as everybody knows; so does that of 'abc'. -/
theorem sha_abc : shaN [97, 98, 99] = [0xba, 0x78, 0x16, 0xbf, 0x8f, 0x01, 0xcf, 0xea, 0x41, 0x41, 0x40, 0xde, 0x5d, 0xae, 0x22, 0x23, 0xb0, 0x03, 0x61, 0xa3, 0x96, 0x17, 0x7a, 0x9c, 0xb4, 0x10, 0xff, 0x61, 0xf2, 0x00, 0x15, 0xad] := by decide +kernel
end Go.Proofs.YtoeibcdnhglobaaDoor.Pure
