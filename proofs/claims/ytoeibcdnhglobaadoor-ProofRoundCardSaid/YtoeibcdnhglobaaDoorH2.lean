/- Texts of the seat, joined: GPNd, GSame, GPAny. -/
import Derived.Test.YtoeibcdnhglobaaDoorGLv10
import Derived.Test.YtoeibcdnhglobaaDoorF4
/- pantilelaw10.ProofNodes: the walk. -/
namespace Go.Proofs.YtoeibcdnhglobaaDoor.P
set_option linter.unusedVariables false
set_option linter.unusedSimpArgs false
open Go.RowKit Go.Shelf Go.Proofs.YtoeibcdnhglobaaDoorW.PrintWords Go.Proofs.YtoeibcdnhglobaaDoorW.PrintLast Go.Proofs.YtoeibcdnhglobaaDoorW.PrintMore
open Go.Proofs.YtoeibcdnhglobaaDoor.Pure

/-- The hashes made, then read as a source. -/
theorem hashes_of (A : Option Addr) (c : Nat) (ps : List Part) (most : Nat) (hmost : most ≤ 1000000) (w : World) (h : Leaves w A ps) :
    Calls Tryd.prog 46 #[.slice A ps.length c, .int .i64 most] w fun e w' => ∃ A1 c1, e = .returned (.slice A1 (hash10 ps most).length c1) ∧ (hash10 ps most).length ≤ c1 ∧ StrRow w' A1 (hash10 ps most) ∧ ReadsOf Value.string ByteArray.empty w' A1 (hash10 ps most).length (hash10 ps most) ∧ Below w.heap.size w w' := by
  refine (Hashes10_calls A c ps most hmost w h).mono ?_
  rintro e w' ⟨v, he, ho, hb⟩
  obtain ⟨A1, c1, rfl, hc1⟩ := own_slc0 ho
  exact ⟨A1, c1, he, hc1, StrRow.of_own ho, own_reads_of' (d := ByteArray.empty) ho, hb⟩
theorem StrRow.rd {w : World} {A : Option Addr} {h : List ByteArray} (s : StrRow w A h) (hl : h.length ≤ 1000000) : ReadsOf Value.string ByteArray.empty w A h.length h := by
  refine ⟨rfl, by omega, fun hp => ?_⟩
  rcases s with ⟨_, rfl⟩ | ⟨g, rfl, hc⟩
  · exact absurd hp (by simp)
  · refine ⟨_, rfl, fun j hj => ?_⟩
    rw [add_plain, hc j hj]
    simp [List.getD_eq_getElem?_getD, hj]
/-- Of at a row that was just made. -/
theorem of_row (A : Option Addr) (c : Nat) (xs : List ByteArray) (w : World) (hs : StrRow w A xs) (hn : xs.length ≤ 1000000) (hsz : ∀ s ∈ xs, s.size ≤ 32) (hG : GlobH w) :
    Calls Tryd.prog 47 #[.slice A xs.length c] w fun e w' => ∃ A' K c', e = .returned (.iface 112 (.slice A' K c')) ∧ SrcAt w' A' K xs ∧ Below w.heap.size w w' :=
  callsIn_wide.1 (Of_in 10 (Nat.le_refl _) A c xs w hs hn hsz hG)
end Go.Proofs.YtoeibcdnhglobaaDoor.P

/- pantileref09.Same: the walk. -/
namespace Go.Proofs.YtoeibcdnhglobaaDoor.P
set_option linter.unusedVariables false
set_option linter.unusedSimpArgs false
open Go.RowKit Go.Shelf Go.Proofs.YtoeibcdnhglobaaDoorW.PrintWords Go.Proofs.YtoeibcdnhglobaaDoorW.PrintLast Go.Proofs.YtoeibcdnhglobaaDoorW.PrintMore
open Go.Proofs.YtoeibcdnhglobaaDoor.Pure

set_option maxRecDepth 100000 in
set_option maxHeartbeats 4000000 in
theorem Same_calls (A0 A1 : Option Addr) (c0 c1 : Nat) (l : List ByteArray) (w : World) (h0 : ReadsOf Value.string ByteArray.empty w A0 l.length l) (h1 : ReadsOf Value.string ByteArray.empty w A1 l.length l) :
    Calls Tryd.prog 34 #[.slice A0 l.length c0, .slice A1 l.length c1] w fun e w' => e = .returned (.bool true) ∧ Below w.heap.size w w' := by
  have hbig := h0.2.1
  go_enter Tryd.func34, Tryd.ntmps34
  go_wp2
  go_loopw [5] (fun v5 wr => ∃ (i : Nat), v5 = .int .i64 i ∧ i ≤ l.length ∧ Below w.heap.size w wr) (fun v5 _ => l.length - (intOf v5).toNat)
  case atStart => exact ⟨0, rfl, by omega, Below.refl _ _⟩
  case round =>
    obtain ⟨i, rfl, hi, hb⟩ := hrel
    by_cases hlt : i < l.length
    · obtain ⟨ad0, rfl, hcell0⟩ := h0.at_ i (by omega) (by omega)
      obtain ⟨ad1, rfl, hcell1⟩ := h1.at_ i (by omega) (by omega)
      have hd0 := (hb.cell (World.block_lt_of_cell? _ _ hcell0)).trans hcell0
      have hd1 := (hb.cell (World.block_lt_of_cell? _ _ hcell1)).trans hcell1
      rw [Int.toNat_natCast] at hd0 hd1
      generalize rdOf ByteArray.empty l (i : Int) = x at *
      have hlI : (i : Int) < (l.length : Int) := by omega
      have hdd : decide ((i : Int) < (l.length : Int)) = true := decide_eq_true hlI
      clear hcell0 hcell1 h0 h1
      go_wp2
      go_quiet (fail)
      go_wp2
      go_roundw
      case rel => exact ⟨i + 1, rfl, by omega, pw_below_drewN hb _⟩
      case measure => simp only [intOf]; omega
    · have hdd : decide ((i : Int) < (l.length : Int)) = false := decide_eq_false (by omega)
      clear h0 h1
      go_wp2
      go_ret
      exact ⟨rfl, hb⟩
end Go.Proofs.YtoeibcdnhglobaaDoor.P

/- pantilelaw10.ProofPrefix: the walk. -/
namespace Go.Proofs.YtoeibcdnhglobaaDoor.P
set_option linter.unusedVariables false
set_option linter.unusedSimpArgs false
open Go.RowKit Go.Shelf Go.Proofs.YtoeibcdnhglobaaDoorW.PrintWords Go.Proofs.YtoeibcdnhglobaaDoorW.PrintLast Go.Proofs.YtoeibcdnhglobaaDoorW.PrintMore
open Go.Proofs.YtoeibcdnhglobaaDoor.Pure

theorem wf64 {n : Int} (h : (Lit.int .i64 n).wf = true) : -9223372036854775808 ≤ n ∧ n ≤ 9223372036854775807 := by
  have h2 : (decide ((-9223372036854775808 : Int) ≤ n) && decide (n ≤ 9223372036854775807)) = true := h
  rw [Bool.and_eq_true, decide_eq_true_eq, decide_eq_true_eq] at h2
  exact h2
theorem seg_take (h : List ByteArray) (N a n : Nat) (hle : a + n ≤ N) : seg (h.take N) a n = seg h a n := by
  unfold seg
  rw [List.drop_take, List.take_take, Nat.min_eq_left (by omega)]
theorem pathR_take (h : List ByteArray) (N : Nat) : ∀ (f m a n : Nat), a + n ≤ N → pathR (h.take N) f m a n = pathR h f m a n
  | 0, _, _, _, _ => rfl
  | f + 1, m, a, n, hle => by
    unfold pathR
    by_cases h1 : n ≤ 1
    · rw [if_pos h1, if_pos h1]
    · have hh := half_lt (n := n) (by omega)
      rw [if_neg h1, if_neg h1, pathR_take h N f m a (half n) (by omega), pathR_take h N f (m - half n) (a + half n) (n - half n) (by omega), seg_take h N _ _ (by omega), seg_take h N _ _ (by omega)]
theorem proofR_take (h : List ByteArray) (N : Nat) : ∀ (f m a n : Nat) (kn : Bool), a + n ≤ N → 1 ≤ m → m ≤ n → proofR (h.take N) f m a n kn = proofR h f m a n kn
  | 0, _, _, _, _, _, _, _ => rfl
  | f + 1, m, a, n, kn, hle, h1, hm => by
    unfold proofR
    by_cases he : m = n
    · rw [if_pos he, if_pos he, seg_take h N _ _ hle]
    · have hh := half_lt (n := n) (by omega)
      rw [if_neg he, if_neg he]
      by_cases hc : m ≤ half n
      · rw [if_pos hc, if_pos hc, proofR_take h N f m a (half n) kn (by omega) h1 hc, seg_take h N _ _ (by omega)]
      · rw [if_neg hc, if_neg hc, proofR_take h N f (m - half n) (a + half n) (n - half n) false (by omega) (by omega) (by omega), seg_take h N _ _ (by omega)]
/-- What Inclusion and Consistency answer at any index. -/
def incE (m : Int) (n : Nat) : Int := if m < 0 ∨ (n : Int) ≤ m then 6 else 0
def incP (h : List ByteArray) (m : Int) (n : Nat) : List ByteArray := if m < 0 ∨ (n : Int) ≤ m then [] else pathR h n m.toNat 0 n
def conE (m : Int) (n : Nat) : Int := if m < 0 ∨ (n : Int) < m then 6 else 0
def conP (h : List ByteArray) (m : Int) (n : Nat) : List ByteArray := if m < 0 ∨ (n : Int) < m then [] else if m = 0 then [] else proofR h n m.toNat 0 n true
theorem incP_take (h : List ByteArray) (m : Int) (n : Nat) : incP (h.take n) m n = incP h m n := by
  unfold incP
  split
  · rfl
  · exact pathR_take h n _ _ _ _ (by omega)
theorem conP_take (h : List ByteArray) (m : Int) (n : Nat) : conP (h.take n) m n = conP h m n := by
  unfold conP
  split
  · rfl
  · split
    · rfl
    · exact proofR_take h n _ _ _ _ _ (by omega) (by omega) (by omega)
theorem rd_nil (w : World) : ReadsOf Value.string ByteArray.empty w none ([] : List ByteArray).length [] := ⟨rfl, by simp, fun h => absurd h (Nat.lt_irrefl 0)⟩
theorem Inc_any (A : Option Addr) (K c : Nat) (m : Int) (n : Nat) (h : List ByteArray) (w : World) (s : SrcAt w A K h) (hs : ∀ s ∈ h, s.size ≤ 32) (hn : n ≤ h.length) (hT : TzTab w) (hG : GlobH w) :
    Calls Tryd.prog 64 #[.iface 112 (.slice A K c), .int .i64 m, .int .i64 n] w fun e w' => ∃ A1 c1, e = .returned (.tuple #[.slice A1 (incP h m n).length c1, .int .i64 (incE m n)]) ∧ (incP h m n).length ≤ c1 ∧ ReadsOf Value.string ByteArray.empty w' A1 (incP h m n).length (incP h m n) ∧ Below w.heap.size w w' := by
  have hlen := s.len
  by_cases hb : m < 0 ∨ (n : Int) ≤ m
  · unfold incP incE
    rw [if_pos hb, if_pos hb]
    refine (Inclusion_range _ m n w (.inr hb)).mono ?_
    rintro e w' ⟨rfl, rfl⟩
    exact ⟨none, 0, rfl, Nat.le_refl _, rd_nil _, Below.refl _ _⟩
  · obtain ⟨k, rfl⟩ : ∃ k : Nat, m = k := ⟨m.toNat, by omega⟩
    unfold incP incE
    rw [if_neg hb, if_neg hb, Int.toNat_natCast]
    refine (Inclusion_calls A K c k n h w s hs (by omega) hn hT hG).mono ?_
    rintro e w' ⟨v, rfl, ho, hb⟩
    obtain ⟨A1, c1, rfl, hc⟩ := own_slc0 ho
    exact ⟨A1, c1, rfl, hc, own_reads_of' (d := ByteArray.empty) ho, hb⟩
theorem Con_any (A : Option Addr) (K c : Nat) (m : Int) (n : Nat) (h : List ByteArray) (w : World) (s : SrcAt w A K h) (hs : ∀ s ∈ h, s.size ≤ 32) (hn : n ≤ h.length) (hT : TzTab w) (hG : GlobH w) :
    Calls Tryd.prog 48 #[.iface 112 (.slice A K c), .int .i64 m, .int .i64 n] w fun e w' => ∃ A1 c1, e = .returned (.tuple #[.slice A1 (conP h m n).length c1, .int .i64 (conE m n)]) ∧ (conP h m n).length ≤ c1 ∧ ReadsOf Value.string ByteArray.empty w' A1 (conP h m n).length (conP h m n) ∧ Below w.heap.size w w' := by
  have hlen := s.len
  by_cases hb : m < 0 ∨ (n : Int) < m
  · unfold conP conE
    rw [if_pos hb, if_pos hb]
    refine (Consistency_range _ m n w (.inr hb)).mono ?_
    rintro e w' ⟨rfl, rfl⟩
    exact ⟨none, 0, rfl, Nat.le_refl _, rd_nil _, Below.refl _ _⟩
  · unfold conP conE
    rw [if_neg hb, if_neg hb]
    by_cases h0 : m = 0
    · subst h0
      rw [if_pos rfl]
      refine (Consistency_zero _ n w (by omega) (by omega)).mono ?_
      rintro e w' ⟨rfl, rfl⟩
      exact ⟨none, 0, rfl, Nat.le_refl _, rd_nil _, Below.refl _ _⟩
    · obtain ⟨k, rfl⟩ : ∃ k : Nat, m = k := ⟨m.toNat, by omega⟩
      rw [if_neg h0, Int.toNat_natCast]
      refine (Consistency_calls A K c k n h w s hs (by omega) (by omega) hn hT hG).mono ?_
      rintro e w' ⟨v, rfl, ho, hb⟩
      obtain ⟨A1, c1, rfl, hc⟩ := own_slc0 ho
      exact ⟨A1, c1, rfl, hc, own_reads_of' (d := ByteArray.empty) ho, hb⟩
theorem StrRow.take_ {w : World} {A : Option Addr} {h : List ByteArray} (s : StrRow w A h) (n : Nat) : StrRow w A (h.take n) := by
  rcases s with ⟨rfl, rfl⟩ | ⟨g, rfl, hc⟩
  · exact .inl ⟨rfl, List.take_nil⟩
  · refine .inr ⟨g, rfl, fun j hj => ?_⟩
    rw [List.length_take] at hj
    rw [hc j (by omega), List.getElem_take]
end Go.Proofs.YtoeibcdnhglobaaDoor.P
