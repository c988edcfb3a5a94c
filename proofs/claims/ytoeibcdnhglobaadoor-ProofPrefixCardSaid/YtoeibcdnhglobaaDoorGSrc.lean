/- proof.list: a source of nodes as it lies in memory; its Node: the walk. -/
import Derived.Test.YtoeibcdnhglobaaDoorPureLvl
import Derived.Test.YtoeibcdnhglobaaDoorF1
namespace Go.Proofs.YtoeibcdnhglobaaDoor.P
set_option linter.unusedVariables false
set_option linter.unusedSimpArgs false
open Go.RowKit Go.Shelf Go.Proofs.YtoeibcdnhglobaaDoorW.PrintWords Go.Proofs.YtoeibcdnhglobaaDoorW.PrintLast Go.Proofs.YtoeibcdnhglobaaDoorW.PrintMore
open Go.Proofs.YtoeibcdnhglobaaDoor.Pure

/-- A source of K levels over the hashes h. -/
structure SrcAt (w : World) (A : Option Addr) (K : Nat) (h : List ByteArray) : Prop where
  at_ : ∀ j, j < K → ∃ ad Aj cj, A = some ad ∧ w.cell? (ad.add j) = some (.slice Aj (lvl joinH h j).length cj) ∧ ReadsOf Value.string ByteArray.empty w Aj (lvl joinH h j).length (lvl joinH h j)
  none_ : ∀ j, K ≤ j → (lvl joinH h j).length = 0
  few : K ≤ 1000001
  len : h.length ≤ 1000000
theorem SrcAt.below {w w' : World} {A : Option Addr} {K : Nat} {h : List ByteArray} (s : SrcAt w A K h) (hb : Below w.heap.size w w') : SrcAt w' A K h :=
  ⟨fun j hj => by
    obtain ⟨ad, Aj, cj, e, hc, hr⟩ := s.at_ j hj
    exact ⟨ad, Aj, cj, e, pw_cell_below hb hc, hr.below hb⟩, s.none_, s.few, s.len⟩
theorem lvl_le (h : List ByteArray) (j : Nat) : (lvl joinH h j).length ≤ h.length := by rw [lvl_length]; exact Nat.div_le_self _ _
set_option maxRecDepth 100000 in
set_option maxHeartbeats 4000000 in
/-- A node that is there. -/
theorem Node_yes (A : Option Addr) (K c : Nat) (h : List ByteArray) (j i : Nat) (w : World) (s : SrcAt w A K h) (hi : i < (lvl joinH h j).length) :
    Calls Tryd.prog 188 #[.slice A K c, .int .i64 j, .int .i64 i] w fun e w' => e = .returned (.tuple #[.string ((lvl joinH h j)[i]), .bool true]) ∧ w' = w := by
  have hj : j < K := by
    rcases Nat.lt_or_ge j K with c | c
    · exact c
    · have := s.none_ j c; omega
  obtain ⟨ad, Aj, cj, rfl, hc, hr⟩ := s.at_ j hj
  obtain ⟨ad2, rfl, hc2⟩ := hr.at_ i (by omega) (by omega)
  have hrd : rdOf ByteArray.empty (lvl joinH h j) (i : Int) = (lvl joinH h j)[i] := by simp [rdOf, List.getD_eq_getElem?_getD, hi]
  rw [hrd, Int.toNat_natCast] at hc2
  have hKm := s.few
  have hle := lvl_le h j
  have hlm := s.len
  generalize (lvl joinH h j)[i] = x at *
  generalize hn : (lvl joinH h j).length = n at *
  clear hn hr s hrd
  have d1 : decide ((j : Int) < 0) = false := decide_eq_false (by omega)
  have d2 : decide ((K : Int) ≤ (j : Int)) = false := decide_eq_false (by omega)
  have d3 : decide ((i : Int) < 0) = false := decide_eq_false (by omega)
  have d4 : decide ((n : Int) ≤ (i : Int)) = false := decide_eq_false (by omega)
  have e1 : (j : Int) < (K : Int) := by omega
  have e2 : (i : Int) < (n : Int) := by omega
  have e3 : (0 : Int) ≤ (j : Int) := by omega
  have e4 : (0 : Int) ≤ (i : Int) := by omega
  go_enter Tryd.func188, Tryd.ntmps188
  go_wp2
  go_ret2
  exact ⟨rfl, rfl⟩
set_option maxRecDepth 100000 in
set_option maxHeartbeats 4000000 in
/-- A node that is not there. -/
theorem Node_no (A : Option Addr) (K c : Nat) (h : List ByteArray) (level index : Int) (w : World) (s : SrcAt w A K h) (hno : level < 0 ∨ index < 0 ∨ (0 ≤ level ∧ 0 ≤ index ∧ ((lvl joinH h level.toNat).length : Int) ≤ index)) :
    Calls Tryd.prog 188 #[.slice A K c, .int .i64 level, .int .i64 index] w fun e w' => e = .returned (.tuple #[.string ⟨#[]⟩, .bool false]) ∧ w' = w := by
  have hKm := s.few
  by_cases h1 : level < 0
  · have d1 : decide (level < 0) = true := decide_eq_true h1
    clear hno
    go_enter Tryd.func188, Tryd.ntmps188
    go_wp2
    go_ret2
    exact ⟨rfl, rfl⟩
  have d1 : decide (level < 0) = false := decide_eq_false h1
  by_cases h2 : (K : Int) ≤ level
  · have d2 : decide ((K : Int) ≤ level) = true := decide_eq_true h2
    clear hno
    go_enter Tryd.func188, Tryd.ntmps188
    go_wp2
    go_ret2
    exact ⟨rfl, rfl⟩
  have d2 : decide ((K : Int) ≤ level) = false := decide_eq_false h2
  by_cases h3 : index < 0
  · have d3 : decide (index < 0) = true := decide_eq_true h3
    clear hno
    go_enter Tryd.func188, Tryd.ntmps188
    go_wp2
    go_ret2
    exact ⟨rfl, rfl⟩
  have d3 : decide (index < 0) = false := decide_eq_false h3
  obtain ⟨j, rfl⟩ : ∃ j : Nat, level = j := ⟨level.toNat, by omega⟩
  rw [Int.toNat_natCast] at hno
  obtain ⟨ad, Aj, cj, rfl, hc, hr⟩ := s.at_ j (by omega)
  have hle := lvl_le h j
  have hlm := s.len
  have h4 : ((lvl joinH h j).length : Int) ≤ index := by omega
  generalize hn : (lvl joinH h j).length = n at *
  clear hn hr s hno
  have d4 : decide ((n : Int) ≤ index) = true := decide_eq_true h4
  have e1 : (j : Int) < (K : Int) := by omega
  have e3 : (0 : Int) ≤ (j : Int) := by omega
  go_enter Tryd.func188, Tryd.ntmps188
  go_wp2
  go_ret2
  exact ⟨rfl, rfl⟩
end Go.Proofs.YtoeibcdnhglobaaDoor.P
