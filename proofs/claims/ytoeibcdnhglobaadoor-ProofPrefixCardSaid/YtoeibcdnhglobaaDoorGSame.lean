/- pantileref09.Same: the walk. -/
import Derived.Test.YtoeibcdnhglobaaDoorF4
namespace Go.Proofs.YtoeibcdnhglobaaDoor.P
set_option linter.unusedVariables false
set_option linter.unusedSimpArgs false
open Go.RowKit Go.Shelf Go.Proofs.YtoeibcdnhglobaaDoorW.PrintWords Go.Proofs.YtoeibcdnhglobaaDoorW.PrintLast Go.Proofs.YtoeibcdnhglobaaDoorW.PrintMore
open Go.Proofs.YtoeibcdnhglobaaDoor.Pure

set_option maxRecDepth 100000 in
set_option maxHeartbeats 4000000 in
theorem Same_calls (A0 A1 : Option Addr) (c0 c1 : Nat) (l : List ByteArray) (w : World) (h0 : ReadsOf Value.string ByteArray.empty w A0 l.length l) (h1 : ReadsOf Value.string ByteArray.empty w A1 l.length l) :
    Calls Tryd.prog 34 #[.slice A0 l.length c0, .slice A1 l.length c1] w fun e w' => e = .returned (.bool true) ∧ Below w.heap.size w w' := by
  have hbig := h0.2.1
  go_enter Tryd.func34, Tryd.ntmps34
  go_wp2
  go_loopw [5] (fun v5 wr => ∃ (i : Nat), v5 = .int .i64 i ∧ i ≤ l.length ∧ Below w.heap.size w wr) (fun v5 _ => l.length - (intOf v5).toNat)
  case atStart => exact ⟨0, rfl, by omega, Below.refl _ _⟩
  case round =>
    obtain ⟨i, rfl, hi, hb⟩ := hrel
    by_cases hlt : i < l.length
    · obtain ⟨ad0, rfl, hcell0⟩ := h0.at_ i (by omega) (by omega)
      obtain ⟨ad1, rfl, hcell1⟩ := h1.at_ i (by omega) (by omega)
      have hd0 := (hb.cell (World.block_lt_of_cell? _ _ hcell0)).trans hcell0
      have hd1 := (hb.cell (World.block_lt_of_cell? _ _ hcell1)).trans hcell1
      rw [Int.toNat_natCast] at hd0 hd1
      generalize rdOf ByteArray.empty l (i : Int) = x at *
      have hlI : (i : Int) < (l.length : Int) := by omega
      have hdd : decide ((i : Int) < (l.length : Int)) = true := decide_eq_true hlI
      clear hcell0 hcell1 h0 h1
      go_wp2
      go_quiet (fail)
      go_wp2
      go_roundw
      case rel => exact ⟨i + 1, rfl, by omega, pw_below_drewN hb _⟩
      case measure => simp only [intOf]; omega
    · have hdd : decide ((i : Int) < (l.length : Int)) = false := decide_eq_false (by omega)
      clear h0 h1
      go_wp2
      go_ret
      exact ⟨rfl, hb⟩
end Go.Proofs.YtoeibcdnhglobaaDoor.P
