/- What nodes.Grow gives, by plain lists: the entries of a leaf, the peaks of a number of leaves. No program in sight. -/
import Derived.Test.YtoeibcdnhglobaaDoorGKey
import Derived.Test.YtoeibcdnhglobaaDoorGOnes
import Derived.Test.YtoeibcdnhglobaaDoorH1
namespace Go.Proofs.YtoeibcdnhglobaaDoor.P
set_option linter.unusedVariables false
set_option linter.unusedSimpArgs false
open Go.RowKit Go.Shelf Go.Proofs.YtoeibcdnhglobaaDoorW.PrintWords
open Go.Proofs.YtoeibcdnhglobaaDoor.Pure

/-- The ranges (first leaf, how many) of the peaks of n leaves, of the binary digits from k on, the widest first. -/
def hiP : Nat → Nat → Nat → List (Nat × Nat)
  | 0, _, _ => []
  | d + 1, k, n => hiP d (k + 1) n ++ (if (n / 2 ^ k) % 2 = 1 then [(n / 2 ^ (k + 1) * 2 ^ (k + 1), 2 ^ k)] else [])
/-- The peaks of the first n leaves. -/
def pkN (H : List ByteArray) (n : Nat) : List ByteArray := (hiP 6 0 n).map fun p => seg H p.1 p.2
def hiN (H : List ByteArray) (k n : Nat) : List ByteArray := (hiP (6 - k) k n).map fun p => seg H p.1 p.2
/-- The entries behind leaf i, of the levels from L on. -/
def entI (H : List ByteArray) (i : Nat) : Nat → Nat → List (ByteArray × ByteArray)
  | 0, _ => []
  | f + 1, L => if (i + 1) % 2 ^ L = 0 then (nodeK L (i / 2 ^ L), seg H (i + 1 - 2 ^ L) (2 ^ L)) :: entI H i f (L + 1) else []
def entA (H : List ByteArray) (i : Nat) : List (ByteArray × ByteArray) := (nodeK 0 i, seg H i 1) :: entI H i 6 1
/-- The entries of the leaves from a on, up to b. -/
def grownL (H : List ByteArray) (a : Nat) : Nat → List (ByteArray × ByteArray)
  | 0 => []
  | m + 1 => grownL H a m ++ entA H (a + m)
theorem pk_len_all : ((List.range 64).all fun n => (hiP 6 0 n).length == pc n) = true := by kernel_rfl
theorem pkN_len (H : List ByteArray) (n : Nat) (h : n < 64) : (pkN H n).length = pc n := by
  unfold pkN
  rw [List.length_map]
  exact beq_iff_eq.1 (List.all_eq_true.1 pk_len_all n (List.mem_range.2 h))
theorem pk_end_all : ((List.range 63).all fun n => (List.range 6).all fun k => !decide ((n + 1) % 2 ^ k = 0 ∧ (n / 2 ^ k) % 2 = 0) || hiP 6 0 (n + 1) == hiP (6 - k) k n ++ [(n + 1 - 2 ^ k, 2 ^ k)]) = true := by kernel_rfl
theorem pkN_end (H : List ByteArray) (n k : Nat) (hn : n < 63) (hk : k < 6) (h0 : (n + 1) % 2 ^ k = 0) (h1 : (n / 2 ^ k) % 2 = 0) : pkN H (n + 1) = hiN H k n ++ [seg H (n + 1 - 2 ^ k) (2 ^ k)] := by
  have h := List.all_eq_true.1 (List.all_eq_true.1 pk_end_all n (List.mem_range.2 hn)) k (List.mem_range.2 hk)
  rw [decide_eq_true ⟨h0, h1⟩] at h
  simp only [Bool.not_true, Bool.false_or, beq_iff_eq] at h
  unfold pkN hiN
  rw [h]
  simp
theorem hiN_step (H : List ByteArray) (k n : Nat) (hk : k < 6) (h1 : (n / 2 ^ k) % 2 = 1) : hiN H k n = hiN H (k + 1) n ++ [seg H (n / 2 ^ (k + 1) * 2 ^ (k + 1)) (2 ^ k)] := by
  unfold hiN
  have e : 6 - k = (6 - (k + 1)) + 1 := by omega
  rw [e]
  show ((hiP (6 - (k + 1)) (k + 1) n ++ _).map _) = _
  rw [if_pos h1]
  simp
theorem seg_pow (H : List ByteArray) (a k : Nat) (h : a + 2 ^ (k + 1) ≤ H.length) : seg H a (2 ^ (k + 1)) = joinH (seg H a (2 ^ k)) (seg H (a + 2 ^ k) (2 ^ k)) := by
  have hp : 0 < 2 ^ k := Nat.two_pow_pos k
  have e2 : 2 ^ (k + 1) = 2 ^ k + 2 ^ k := by rw [Nat.pow_succ]; omega
  have hh : half (2 ^ (k + 1)) = 2 ^ k := by rw [e2]; exact half_at hp (Nat.le_refl _)
  have hs := seg_split H a (2 ^ (k + 1)) (by omega) h
  rw [hh] at hs
  rw [hs, e2, Nat.add_sub_cancel]
theorem lv_all : ((List.range 63).all fun n => (List.range 6).all fun k => !decide ((n + 1) % 2 ^ k = 0) || ((n / 2 ^ k) % 2 == 1) == decide ((n + 1) % 2 ^ (k + 1) = 0)) = true := by kernel_rfl
/-- The loop's test in the code and the test of the document. -/
theorem lv_test (n k : Nat) (hn : n < 63) (hk : k < 6) (h0 : (n + 1) % 2 ^ k = 0) : (n / 2 ^ k) % 2 = 1 ↔ (n + 1) % 2 ^ (k + 1) = 0 := by
  have h := List.all_eq_true.1 (List.all_eq_true.1 lv_all n (List.mem_range.2 hn)) k (List.mem_range.2 hk)
  rw [decide_eq_true h0] at h
  simp only [Bool.not_true, Bool.false_or, beq_iff_eq] at h
  constructor
  · intro e
    rw [e] at h
    exact of_decide_eq_true h.symm
  · intro e
    rw [decide_eq_true e] at h
    exact beq_iff_eq.1 h
theorem at_all : ((List.range 63).all fun n => (List.range 6).all fun k => !decide ((n + 1) % 2 ^ (k + 1) = 0) || (n / 2 ^ (k + 1) * 2 ^ (k + 1) == n + 1 - 2 ^ (k + 1) && n / 2 ^ (k + 1) * 2 ^ (k + 1) + 2 ^ k == n + 1 - 2 ^ k && decide (2 ^ (k + 1) ≤ n + 1))) = true := by kernel_rfl
theorem at_step (n k : Nat) (hn : n < 63) (hk : k < 6) (h0 : (n + 1) % 2 ^ (k + 1) = 0) : n / 2 ^ (k + 1) * 2 ^ (k + 1) = n + 1 - 2 ^ (k + 1) ∧ n / 2 ^ (k + 1) * 2 ^ (k + 1) + 2 ^ k = n + 1 - 2 ^ k ∧ 2 ^ (k + 1) ≤ n + 1 := by
  have h := List.all_eq_true.1 (List.all_eq_true.1 at_all n (List.mem_range.2 hn)) k (List.mem_range.2 hk)
  rw [decide_eq_true h0] at h
  simp only [Bool.not_true, Bool.false_or, Bool.and_eq_true, beq_iff_eq, decide_eq_true_eq] at h
  exact ⟨h.1.1, h.1.2, h.2⟩
/-- One round of the inner loop: the last peak joined. -/
theorem join_step (H : List ByteArray) (n k : Nat) (hn : n < 63) (hk : k < 6) (h0 : (n + 1) % 2 ^ (k + 1) = 0) (hle : n < H.length) :
    joinH (seg H (n / 2 ^ (k + 1) * 2 ^ (k + 1)) (2 ^ k)) (seg H (n + 1 - 2 ^ k) (2 ^ k)) = seg H (n + 1 - 2 ^ (k + 1)) (2 ^ (k + 1)) := by
  obtain ⟨e1, e2, e3⟩ := at_step n k hn hk h0
  rw [← e2, ← e1, seg_pow H _ k (by omega)]
end Go.Proofs.YtoeibcdnhglobaaDoor.P
