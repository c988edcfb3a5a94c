/- pantileref01: bit, turn, cut, top, word: the walks. -/
import Derived.Test.YtoeibcdnhglobaaDoorGDigest
import Derived.Deep.QuietTactic
import Derived.BigQuiet
namespace Go.Proofs.YtoeibcdnhglobaaDoor.P
set_option linter.unusedVariables false
set_option linter.unusedSimpArgs false
open Go.RowKit Go.Shelf Go.Proofs.YtoeibcdnhglobaaDoorW.PrintWords Go.Proofs.YtoeibcdnhglobaaDoorW.PrintLast Go.Proofs.YtoeibcdnhglobaaDoorW.PrintMore
open Go.Proofs.YtoeibcdnhglobaaDoor.Pure

theorem bit_calls (n : Nat) (hn : n ≤ 32) (R : Nat) (hR : R = 2 ^ n) (w : World) : Calls Tryd.prog 163 #[.int .i64 n] w fun e w' => e = .returned (.int .u64 R) ∧ w' = w := by
  have hp : ∀ i, i ≤ 32 → 2 ^ i ≤ 4294967296 := fun i hi => by
    have := Nat.pow_le_pow_right (n := 2) (by decide) hi
    omega
  have HP := Lib.hid hp
  have HR := Lib.hid hR
  clear hp hR
  go_enter Tryd.func163, Tryd.ntmps163
  go_wp2
  go_loop [3, 4] (fun v3 v4 => ∃ (i P : Nat), v4 = .int .i64 i ∧ i ≤ n ∧ v3 = .int .u64 P ∧ Hid (P = 2 ^ i)) (fun v3 v4 => n - (intOf v4).toNat)
  case atStart => exact ⟨0, 1, rfl, by omega, rfl, Lib.hid rfl⟩
  case round =>
    obtain ⟨i, P, rfl, hi, rfl, HQ⟩ := hrel
    have hPb : P ≤ 4294967296 := by rw [HQ.out]; exact HP.out i (by omega)
    by_cases hlt : i < n
    · have hd : decide ((i : Int) < (n : Int)) = true := decide_eq_true (by omega)
      go_wp2
      exact ⟨⟨i + 1, P * 2, rfl, by omega, rfl, Lib.hid (by rw [HQ.out, Nat.pow_succ])⟩, by simp only [intOf]; omega⟩
    · have hd : decide ((i : Int) < (n : Int)) = false := decide_eq_false (by omega)
      have hin : i = n := by omega
      subst hin
      go_wp2
      go_ret
      exact ⟨by rw [HR.out, ← HQ.out]; rfl, rfl⟩
theorem word_calls (A : Option Addr) (c : Nat) (l : List Int) (w : World) (hr : ReadsInt w .u8 A l.length l) (hl : l.length ≤ 4) (hb : ∀ x ∈ l, 0 ≤ x ∧ x < 256) :
    Calls Tryd.prog 153 #[.slice A l.length c] w fun e w' => e = .returned (.int .u64 (be l)) ∧ w' = w := by
  go_enter Tryd.func153, Tryd.ntmps153
  go_wp2
  go_loop [3, 4] (fun v3 v4 => ∃ i : Nat, v3 = .int .u64 (be (l.take i)) ∧ v4 = .int .i64 i ∧ i ≤ l.length) (fun v3 v4 => l.length - (intOf v4).toNat)
  case atStart => exact ⟨0, rfl, rfl, by omega⟩
  case round =>
    obtain ⟨i, rfl, rfl, hi⟩ := hrel
    by_cases hlt : i < l.length
    · obtain ⟨ad, rfl, hcell⟩ := hr.at_ i (by omega) (by omega)
      have hrd : rd l (i : Int) = l[i] := by simp [rd, List.getD_eq_getElem?_getD, hlt]
      rw [hrd, Int.toNat_natCast] at hcell
      have hd : decide ((i : Int) < (l.length : Int)) = true := decide_eq_true (by omega)
      have hpb := be_bd (l.take i) (fun x hx => hb x (List.mem_of_mem_take hx))
      have hp3 : be (l.take i) < 16777216 := by
        have h2 := hpb.2
        have hl3 : (l.take i).length ≤ 3 := by rw [List.length_take]; omega
        have h4 : (l.take i).length = 0 ∨ (l.take i).length = 1 ∨ (l.take i).length = 2 ∨ (l.take i).length = 3 := by omega
        rcases h4 with h4 | h4 | h4 | h4 <;> rw [h4] at h2 <;> omega
      have hp0 := hpb.1
      have hx := hb _ (List.getElem_mem hlt)
      have hx0 := hx.1
      have hx1 := hx.2
      have hstep : be (l.take (i + 1)) = be (l.take i) * 256 + l[i] := by rw [List.take_succ_eq_append_getElem hlt, be_snoc]
      have HS := Lib.hid hstep
      generalize l[i] = y at *
      generalize be (l.take i) = p at *
      clear hr hrd hpb hstep hx
      go_wp2
      refine ⟨⟨i + 1, ?_, rfl, by omega⟩, by simp only [intOf]; omega⟩
      rw [HS.out]
    · have hd : decide ((i : Int) < (l.length : Int)) = false := decide_eq_false (by omega)
      have he : l.take i = l := List.take_of_length_le (by omega)
      rw [he]
      clear hr
      go_wp2
      go_ret
      exact ⟨rfl, rfl⟩
/-- The value of the document's words of 32 bits, its slices wherever they lie. -/
abbrev wv (A2 A3 A4 A5 A6 A7 : Option Addr) (c2 c3 c4 c5 c6 c7 n6 n7 : Nat) : Array Value := #[.int .i64 32, .int .i64 64, .slice A2 3 c2, .slice A3 3 c3, .slice A4 3 c4, .slice A5 3 c5, .slice A6 n6 c6, .slice A7 n7 c7]
theorem cut_calls (A2 A3 A4 A5 A6 A7 : Option Addr) (c2 c3 c4 c5 c6 c7 n6 n7 : Nat) (n : Nat) (hn : n < 18446744073709551616) (w : World) :
    Calls Tryd.prog 154 #[.agg #[.int .i64 32, .int .i64 64, .slice A2 3 c2, .slice A3 3 c3, .slice A4 3 c4, .slice A5 3 c5, .slice A6 n6 c6, .slice A7 n7 c7], .int .u64 n] w fun e w' => e = .returned (.int .u64 (n % 4294967296 : Nat)) ∧ Below w.heap.size w w' := by
  have HN := Lib.hid hn
  clear hn
  go_enter Tryd.func154, Tryd.ntmps154
  go_wp2
  go_ret
  exact ⟨rfl, (Below.refl _ w).alloc (Nat.le_refl _) _⟩
theorem top_calls (A2 A3 A4 A5 A6 A7 : Option Addr) (c2 c3 c4 c5 c6 c7 n6 n7 : Nat) (n : Nat) (hn : n < 18446744073709551616) (w : World) :
    Calls Tryd.prog 137 #[.agg #[.int .i64 32, .int .i64 64, .slice A2 3 c2, .slice A3 3 c3, .slice A4 3 c4, .slice A5 3 c5, .slice A6 n6 c6, .slice A7 n7 c7], .int .u64 n] w fun e w' => e = .returned (.int .u64 (n / 4294967296 : Nat)) ∧ Below w.heap.size w w' := by
  have hz : IntKind.u64.wrap ((n : Int) / 4294967296) = ((n / 4294967296 : Nat) : Int) := by rw [IntKind.wrap_u64]; omega
  obtain ⟨m, hm⟩ : ∃ m, m = n / 4294967296 := ⟨_, rfl⟩
  rw [← hm] at hz ⊢
  clear hn hm
  go_enter Tryd.func137, Tryd.ntmps137
  go_wp2
  go_ret
  exact ⟨rfl, (Below.refl _ w).alloc (Nat.le_refl _) _⟩
theorem turn_calls (A2 A3 A4 A5 A6 A7 : Option Addr) (c2 c3 c4 c5 c6 c7 n6 n7 : Nat) (n k : Nat) (hn : n < 4294967296) (h1 : 1 ≤ k) (hk : k ≤ 31) (w : World) :
    Calls Tryd.prog 162 #[.agg #[.int .i64 32, .int .i64 64, .slice A2 3 c2, .slice A3 3 c3, .slice A4 3 c4, .slice A5 3 c5, .slice A6 n6 c6, .slice A7 n7 c7], .int .u64 n, .int .i64 k] w fun e w' => e = .returned (.int .u64 (rotr k n : Nat)) ∧ Below w.heap.size w w' := by
  have e2 : ((32 - k : Nat) : Int) = 32 - (k : Int) := by omega
  obtain ⟨p, hp⟩ : ∃ p, p = 2 ^ k := ⟨_, rfl⟩
  obtain ⟨q, hq⟩ : ∃ q, q = 2 ^ (32 - k) := ⟨_, rfl⟩
  have kb := fun w => bit_calls k (by omega) p hp w
  have kb2 := fun w => bit_calls (32 - k) (by omega) q hq w
  rw [e2] at kb2
  have hpq : p * q = 4294967296 := by rw [hp, hq, ← Nat.pow_add, show k + (32 - k) = 32 by omega]
  have hp0 : 0 < p := hp ▸ Nat.two_pow_pos k
  have hrot : rotr k n = n / p + n % p * q := by rw [hp, hq]; rfl
  have hlt := rotr_lt k n (by omega) hn
  rw [hrot] at hlt
  obtain ⟨X, hX⟩ : ∃ X, X = n / p := ⟨_, rfl⟩
  obtain ⟨Y, hY⟩ : ∃ Y, Y = n % p * q := ⟨_, rfl⟩
  rw [← hX, ← hY] at hrot hlt
  have ex : (n : Int) / (p : Int) = (X : Int) := by rw [hX]; norm_cast
  have ey : (n : Int) % (p : Int) * (q : Int) = (Y : Int) := by rw [hY]; norm_cast
  have ex2 : Int.tdiv (n : Int) (p : Int) = (X : Int) := by rw [Int.tdiv_eq_ediv_of_nonneg (by omega), ex]
  have w1 : IntKind.u64.wrap (X : Int) = (X : Int) := by rw [IntKind.wrap_u64]; omega
  have w2 : IntKind.u64.wrap (Y : Int) = (Y : Int) := by rw [IntKind.wrap_u64]; omega
  have w3 : IntKind.u64.wrap ((X : Int) + (Y : Int)) = (X : Int) + (Y : Int) := by rw [IntKind.wrap_u64]; omega
  have HR := Lib.hid hrot
  have z1 : ((p : Int) == 0) = false := beq_eq_false_iff_ne.2 (by omega)
  clear hrot hpq hp hq e2 hX hY
  go_enter Tryd.func162, Tryd.ntmps162
  go_wp2_with (go_at_call 163; with_reducible refine (kb _).mono ?_; rintro e w1 ⟨rfl, hw1⟩; rw [hw1]; clear hw1 w1)
  go_quiet (first
    | (go_at_call 163; with_reducible exact Calls.quiet_of_same (kb _))
    | (go_at_call 163; with_reducible exact Calls.quiet_of_same (kb2 _)))
  go_wp2
  go_ret
  refine ⟨by rw [HR.out]; rfl, ?_⟩
  exact pw_below_drewN ((Below.refl _ w).alloc (Nat.le_refl _) _) _
end Go.Proofs.YtoeibcdnhglobaaDoor.P
