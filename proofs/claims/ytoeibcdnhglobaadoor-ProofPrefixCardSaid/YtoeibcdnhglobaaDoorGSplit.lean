/- bits.Len by the shelf; proof.split: the walk. -/
import Derived.Test.YtoeibcdnhglobaaDoorE1
import Derived.Shelf.Small.Bits
namespace Go.Proofs.YtoeibcdnhglobaaDoor.P
set_option linter.unusedVariables false
set_option linter.unusedSimpArgs false
open Go.RowKit Go.Shelf Go.Proofs.YtoeibcdnhglobaaDoorW.PrintWords Go.Proofs.YtoeibcdnhglobaaDoorW.PrintLast Go.Proofs.YtoeibcdnhglobaaDoorW.PrintMore
open Go.Proofs.YtoeibcdnhglobaaDoor.Pure
def Tryd.lays125_ren : Go.Shelf.Ren := ⟨fun | 125 => 123 | 128 => 142 | 129 => 143 | n => n, fun | 46 => 93 | 3 => 3 | 51 => 133 | 53 => 135 | 4 => 4 | 5 => 5 | 9 => 9 | n => n, fun | n => n⟩
theorem Tryd.lays125 : Go.Proofs.Lays.n125 Tryd.prog Tryd.lays125_ren := {
  mixed := by kernel_rfl
  f125 := Tryd.func123.trans (congrArg some (by kernel_rfl))
  f128 := Tryd.func142.trans (congrArg some (by kernel_rfl))
  f129 := Tryd.func143.trans (congrArg some (by kernel_rfl))
  t3 := Tryd.underlying3
  a3 := Tryd.isAgg3
  z3 := Tryd.sizeOf3
  v3 := Tryd.zeroValue3
  t4 := Tryd.underlying4
  a4 := Tryd.isAgg4
  z4 := Tryd.sizeOf4
  v4 := Tryd.zeroValue4
  t5 := Tryd.underlying5
  a5 := Tryd.isAgg5
  z5 := Tryd.sizeOf5
  v5 := Tryd.zeroValue5
  t9 := Tryd.underlying9
  a9 := Tryd.isAgg9
  z9 := Tryd.sizeOf9
  v9 := Tryd.zeroValue9
  t46 := Tryd.underlying93
  a46 := Tryd.isAgg93
  z46 := Tryd.sizeOf93
  v46 := Tryd.zeroValue93
  t51 := Tryd.underlying133
  a51 := Tryd.isAgg133
  z51 := Tryd.sizeOf133
  v51 := Tryd.zeroValue133
  t53 := Tryd.underlying135
  a53 := Tryd.isAgg135
  z53 := Tryd.sizeOf135
  v53 := Tryd.zeroValue135 }

theorem bits_Len_ (x : Int) (w : World) (h0 : 0 ≤ x) (h1 : x ≤ 18446744073709551615) :
    Calls Tryd.prog 123 #[.int .u64 x] w fun e w' => e = .returned (.int .i64 (Lib.bitLen x.toNat)) ∧ w' = w := Any.bits_Len Tryd.lays125 x w h0 h1
theorem bitLenAux_log : ∀ (f x : Nat), 0 < x → x < 2 ^ f → Lib.bitLenAux f x = Nat.log2 x + 1
  | 0, x, h0, h => by simp at h; omega
  | f + 1, x, h0, h => by
    unfold Lib.bitLenAux
    rw [if_neg (by omega)]
    by_cases h1 : x = 1
    · subst h1
      have : Lib.bitLenAux f (1 / 2) = 0 := by
        cases f with
        | zero => rfl
        | succ f => unfold Lib.bitLenAux; simp
      rw [this]
      decide
    · have ih := bitLenAux_log f (x / 2) (by omega) (by rw [Nat.pow_succ] at h; omega)
      rw [ih]
      conv => rhs; rw [Nat.log2_def]
      rw [if_pos (by omega)]
      omega
theorem bitLen_log (x : Nat) (h0 : 0 < x) (h : x < 18446744073709551616) : Lib.bitLen x = Nat.log2 x + 1 := bitLenAux_log 64 x h0 h
theorem half_of_len (n : Nat) (h2 : 2 ≤ n) (hn : n < 1099511627776) : ∃ k : Nat, k < 40 ∧ half n = 2 ^ k ∧ Lib.bitLen (n - 1) = k + 1 := by
  refine ⟨Nat.log2 (n - 1), ?_, rfl, bitLen_log _ (by omega) (by omega)⟩
  exact (Nat.log2_lt (by omega)).2 (by omega)
theorem pow_wrap (k : Nat) (hk : k < 40) : wrap64 ((2 : Int) ^ k) = ((2 ^ k : Nat) : Int) := by
  have h : 2 ^ k < 1099511627776 := Nat.lt_of_lt_of_eq (Nat.pow_lt_pow_right (by decide) hk) (by decide : 2 ^ 40 = 1099511627776)
  rw [show (2 : Int) ^ k = ((2 ^ k : Nat) : Int) by norm_cast]
  generalize 2 ^ k = z at *
  exact wrap64_id (by omega) (by omega)
set_option maxHeartbeats 1000000 in
theorem split_calls (n : Nat) (h2 : 2 ≤ n) (hn : n < 1099511627776) (w : World) :
    Calls Tryd.prog 96 #[.int .i64 n] w fun e w' => e = .returned (.int .i64 (half n : Nat)) ∧ w' = w := by
  obtain ⟨k, hk, hh, hl⟩ := half_of_len n h2 hn
  have kl := fun W => bits_Len_ ((n : Int) - 1) W (by omega) (by omega)
  rw [show ((n : Int) - 1).toNat = n - 1 by omega, hl] at kl
  have hs := pow_wrap k hk
  rw [hh]
  have hw : IntKind.u64.wrap ((n : Int) - 1) = (n : Int) - 1 := by rw [IntKind.wrap_u64]; omega
  have hkk : ((k + 1 : Nat) : Int) - 1 = (k : Int) := by omega
  have hk0 : (0 : Int) ≤ (k : Int) := by omega
  have hk1 : (k : Int) < 40 := by omega
  have hn0 : (2 : Int) ≤ (n : Int) := by omega
  have hn1 : (n : Int) < 1099511627776 := by omega
  clear hh hl hk h2 hn
  generalize ((2 ^ k : Nat) : Int) = r at *
  go_enter Tryd.func96, Tryd.ntmps96
  go_wp2_with (go_at_call 123; refine (kl _).mono ?_; rintro e w' ⟨rfl, rfl⟩)
  go_ret
  exact ⟨by show Ending.returned (.int .i64 (wrap64 (2 ^ k))) = _; rw [hs], rfl⟩
end Go.Proofs.YtoeibcdnhglobaaDoor.P
