/- math/bits.OnesCount at small numbers. -/
import Derived.Test.YtoeibcdnhglobaaDoorE5
namespace Go.Proofs.YtoeibcdnhglobaaDoor.P
set_option linter.unusedVariables false
set_option linter.unusedSimpArgs false
open Go.RowKit Go.Shelf Go.Proofs.YtoeibcdnhglobaaDoorW.PrintWords Go.Proofs.YtoeibcdnhglobaaDoorW.PrintLast Go.Proofs.YtoeibcdnhglobaaDoorW.PrintMore
open Go.Proofs.YtoeibcdnhglobaaDoor.Pure

/-- How many ones a number of 6 binary digits has. -/
def pcF : Nat → Nat → Nat
  | 0, _ => 0
  | f + 1, n => n % 2 + pcF f (n / 2)
def pc (n : Nat) : Nat := pcF 6 n
set_option maxRecDepth 100000 in
set_option maxHeartbeats 4000000 in
theorem Ones64_calls (n : Nat) (hn : n < 64) (w : World) : Calls Tryd.prog 128 #[.int .u64 n] w fun e w' => e = .returned (.int .i64 (pc n)) ∧ w' = w := by
  have hnI : (n : Int) < 64 := by omega
  go_enter Tryd.func128, Tryd.ntmps128
  go_wp2
  go_ret
  refine ⟨congrArg (fun z => Ending.returned (.int .i64 z)) ?_, rfl⟩
  clear hnI
  revert hn
  generalize n = m
  revert m
  decide +kernel
set_option maxRecDepth 100000 in
set_option maxHeartbeats 4000000 in
theorem Ones_calls (n : Nat) (hn : n < 64) (w : World) : Calls Tryd.prog 103 #[.int .u64 n] w fun e w' => e = .returned (.int .i64 (pc n)) ∧ w' = w := by
  have k := fun W => Ones64_calls n hn W
  have hnI : (n : Int) < 64 := by omega
  go_enter Tryd.func103, Tryd.ntmps103
  go_wp2_with (go_at_call 128; refine (k _).mono ?_; rintro e w' ⟨rfl, hw'⟩; rw [hw']; clear hw' w')
  go_ret
  exact ⟨rfl, rfl⟩
end Go.Proofs.YtoeibcdnhglobaaDoor.P
