/- pantilelaw10.ProofPrefix: the walk. -/
import Derived.Test.YtoeibcdnhglobaaDoorGPNd
import Derived.Test.YtoeibcdnhglobaaDoorGSame
namespace Go.Proofs.YtoeibcdnhglobaaDoor.P
set_option linter.unusedVariables false
set_option linter.unusedSimpArgs false
open Go.RowKit Go.Shelf Go.Proofs.YtoeibcdnhglobaaDoorW.PrintWords Go.Proofs.YtoeibcdnhglobaaDoorW.PrintLast Go.Proofs.YtoeibcdnhglobaaDoorW.PrintMore
open Go.Proofs.YtoeibcdnhglobaaDoor.Pure

theorem wf64 {n : Int} (h : (Lit.int .i64 n).wf = true) : -9223372036854775808 ≤ n ∧ n ≤ 9223372036854775807 := by
  have h2 : (decide ((-9223372036854775808 : Int) ≤ n) && decide (n ≤ 9223372036854775807)) = true := h
  rw [Bool.and_eq_true, decide_eq_true_eq, decide_eq_true_eq] at h2
  exact h2
theorem seg_take (h : List ByteArray) (N a n : Nat) (hle : a + n ≤ N) : seg (h.take N) a n = seg h a n := by
  unfold seg
  rw [List.drop_take, List.take_take, Nat.min_eq_left (by omega)]
theorem pathR_take (h : List ByteArray) (N : Nat) : ∀ (f m a n : Nat), a + n ≤ N → pathR (h.take N) f m a n = pathR h f m a n
  | 0, _, _, _, _ => rfl
  | f + 1, m, a, n, hle => by
    unfold pathR
    by_cases h1 : n ≤ 1
    · rw [if_pos h1, if_pos h1]
    · have hh := half_lt (n := n) (by omega)
      rw [if_neg h1, if_neg h1, pathR_take h N f m a (half n) (by omega), pathR_take h N f (m - half n) (a + half n) (n - half n) (by omega), seg_take h N _ _ (by omega), seg_take h N _ _ (by omega)]
theorem proofR_take (h : List ByteArray) (N : Nat) : ∀ (f m a n : Nat) (kn : Bool), a + n ≤ N → 1 ≤ m → m ≤ n → proofR (h.take N) f m a n kn = proofR h f m a n kn
  | 0, _, _, _, _, _, _, _ => rfl
  | f + 1, m, a, n, kn, hle, h1, hm => by
    unfold proofR
    by_cases he : m = n
    · rw [if_pos he, if_pos he, seg_take h N _ _ hle]
    · have hh := half_lt (n := n) (by omega)
      rw [if_neg he, if_neg he]
      by_cases hc : m ≤ half n
      · rw [if_pos hc, if_pos hc, proofR_take h N f m a (half n) kn (by omega) h1 hc, seg_take h N _ _ (by omega)]
      · rw [if_neg hc, if_neg hc, proofR_take h N f (m - half n) (a + half n) (n - half n) false (by omega) (by omega) (by omega), seg_take h N _ _ (by omega)]
/-- What Inclusion and Consistency answer at any index. -/
def incE (m : Int) (n : Nat) : Int := if m < 0 ∨ (n : Int) ≤ m then 6 else 0
def incP (h : List ByteArray) (m : Int) (n : Nat) : List ByteArray := if m < 0 ∨ (n : Int) ≤ m then [] else pathR h n m.toNat 0 n
def conE (m : Int) (n : Nat) : Int := if m < 0 ∨ (n : Int) < m then 6 else 0
def conP (h : List ByteArray) (m : Int) (n : Nat) : List ByteArray := if m < 0 ∨ (n : Int) < m then [] else if m = 0 then [] else proofR h n m.toNat 0 n true
theorem incP_take (h : List ByteArray) (m : Int) (n : Nat) : incP (h.take n) m n = incP h m n := by
  unfold incP
  split
  · rfl
  · exact pathR_take h n _ _ _ _ (by omega)
theorem conP_take (h : List ByteArray) (m : Int) (n : Nat) : conP (h.take n) m n = conP h m n := by
  unfold conP
  split
  · rfl
  · split
    · rfl
    · exact proofR_take h n _ _ _ _ _ (by omega) (by omega) (by omega)
theorem rd_nil (w : World) : ReadsOf Value.string ByteArray.empty w none ([] : List ByteArray).length [] := ⟨rfl, by simp, fun h => absurd h (Nat.lt_irrefl 0)⟩
theorem Inc_any (A : Option Addr) (K c : Nat) (m : Int) (n : Nat) (h : List ByteArray) (w : World) (s : SrcAt w A K h) (hs : ∀ s ∈ h, s.size ≤ 32) (hn : n ≤ h.length) (hT : TzTab w) (hG : GlobH w) :
    Calls Tryd.prog 64 #[.iface 112 (.slice A K c), .int .i64 m, .int .i64 n] w fun e w' => ∃ A1 c1, e = .returned (.tuple #[.slice A1 (incP h m n).length c1, .int .i64 (incE m n)]) ∧ (incP h m n).length ≤ c1 ∧ ReadsOf Value.string ByteArray.empty w' A1 (incP h m n).length (incP h m n) ∧ Below w.heap.size w w' := by
  have hlen := s.len
  by_cases hb : m < 0 ∨ (n : Int) ≤ m
  · unfold incP incE
    rw [if_pos hb, if_pos hb]
    refine (Inclusion_range _ m n w (.inr hb)).mono ?_
    rintro e w' ⟨rfl, rfl⟩
    exact ⟨none, 0, rfl, Nat.le_refl _, rd_nil _, Below.refl _ _⟩
  · obtain ⟨k, rfl⟩ : ∃ k : Nat, m = k := ⟨m.toNat, by omega⟩
    unfold incP incE
    rw [if_neg hb, if_neg hb, Int.toNat_natCast]
    refine (Inclusion_calls A K c k n h w s hs (by omega) hn hT hG).mono ?_
    rintro e w' ⟨v, rfl, ho, hb⟩
    obtain ⟨A1, c1, rfl, hc⟩ := own_slc0 ho
    exact ⟨A1, c1, rfl, hc, own_reads_of' (d := ByteArray.empty) ho, hb⟩
theorem Con_any (A : Option Addr) (K c : Nat) (m : Int) (n : Nat) (h : List ByteArray) (w : World) (s : SrcAt w A K h) (hs : ∀ s ∈ h, s.size ≤ 32) (hn : n ≤ h.length) (hT : TzTab w) (hG : GlobH w) :
    Calls Tryd.prog 48 #[.iface 112 (.slice A K c), .int .i64 m, .int .i64 n] w fun e w' => ∃ A1 c1, e = .returned (.tuple #[.slice A1 (conP h m n).length c1, .int .i64 (conE m n)]) ∧ (conP h m n).length ≤ c1 ∧ ReadsOf Value.string ByteArray.empty w' A1 (conP h m n).length (conP h m n) ∧ Below w.heap.size w w' := by
  have hlen := s.len
  by_cases hb : m < 0 ∨ (n : Int) < m
  · unfold conP conE
    rw [if_pos hb, if_pos hb]
    refine (Consistency_range _ m n w (.inr hb)).mono ?_
    rintro e w' ⟨rfl, rfl⟩
    exact ⟨none, 0, rfl, Nat.le_refl _, rd_nil _, Below.refl _ _⟩
  · unfold conP conE
    rw [if_neg hb, if_neg hb]
    by_cases h0 : m = 0
    · subst h0
      rw [if_pos rfl]
      refine (Consistency_zero _ n w (by omega) (by omega)).mono ?_
      rintro e w' ⟨rfl, rfl⟩
      exact ⟨none, 0, rfl, Nat.le_refl _, rd_nil _, Below.refl _ _⟩
    · obtain ⟨k, rfl⟩ : ∃ k : Nat, m = k := ⟨m.toNat, by omega⟩
      rw [if_neg h0, Int.toNat_natCast]
      refine (Consistency_calls A K c k n h w s hs (by omega) (by omega) hn hT hG).mono ?_
      rintro e w' ⟨v, rfl, ho, hb⟩
      obtain ⟨A1, c1, rfl, hc⟩ := own_slc0 ho
      exact ⟨A1, c1, rfl, hc, own_reads_of' (d := ByteArray.empty) ho, hb⟩
theorem StrRow.take_ {w : World} {A : Option Addr} {h : List ByteArray} (s : StrRow w A h) (n : Nat) : StrRow w A (h.take n) := by
  rcases s with ⟨rfl, rfl⟩ | ⟨g, rfl, hc⟩
  · exact .inl ⟨rfl, List.take_nil⟩
  · refine .inr ⟨g, rfl, fun j hj => ?_⟩
    rw [List.length_take] at hj
    rw [hc j (by omega), List.getElem_take]
end Go.Proofs.YtoeibcdnhglobaaDoor.P
