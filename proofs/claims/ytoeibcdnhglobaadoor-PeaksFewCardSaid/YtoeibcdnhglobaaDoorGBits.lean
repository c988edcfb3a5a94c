/- digest.number and bits.RotateLeft32: the walks. -/
import Derived.Test.YtoeibcdnhglobaaDoorGRange
import Derived.Test.YtoeibcdnhglobaaDoorPureMsg
import Derived.Laws.Bits64b
namespace Go.Proofs.YtoeibcdnhglobaaDoor.P
set_option linter.unusedVariables false
set_option linter.unusedSimpArgs false
open Go.RowKit Go.Proofs.YtoeibcdnhglobaaDoorW.PrintWords Go.Proofs.YtoeibcdnhglobaaDoorW.PrintLast Go.Proofs.YtoeibcdnhglobaaDoorW.PrintMore
open Go.Proofs.YtoeibcdnhglobaaDoor.Pure

theorem bits_or_u32N (a b : Nat) (ha : a < 4294967296) (hb : b < 4294967296) : bits .or .u32 (a : Int) (b : Int) = ((a ||| b : Nat) : Int) := by
  have hx : a ||| b < 2 ^ 32 := Nat.or_lt_two_pow (by omega) (by omega)
  have h1 : (BitVec.ofInt 32 (a : Int)).toNat = a := by
    rw [BitVec.ofInt_natCast, BitVec.toNat_ofNat]; exact Nat.mod_eq_of_lt (by omega)
  have h2 : (BitVec.ofInt 32 (b : Int)).toNat = b := by
    rw [BitVec.ofInt_natCast, BitVec.toNat_ofNat]; exact Nat.mod_eq_of_lt (by omega)
  show IntKind.u32.wrap ((BitVec.ofInt 32 (a : Int) ||| BitVec.ofInt 32 (b : Int)).toNat : Int) = _
  rw [BitVec.toNat_or, h1, h2, wrap_u32']
  omega
theorem bits_xor_u32N (a b : Nat) (ha : a < 4294967296) (hb : b < 4294967296) : bits .xor .u32 (a : Int) (b : Int) = ((a ^^^ b : Nat) : Int) := by
  have hx : a ^^^ b < 2 ^ 32 := Nat.xor_lt_two_pow (by omega) (by omega)
  have h1 : (BitVec.ofInt 32 (a : Int)).toNat = a := by
    rw [BitVec.ofInt_natCast, BitVec.toNat_ofNat]; exact Nat.mod_eq_of_lt (by omega)
  have h2 : (BitVec.ofInt 32 (b : Int)).toNat = b := by
    rw [BitVec.ofInt_natCast, BitVec.toNat_ofNat]; exact Nat.mod_eq_of_lt (by omega)
  show IntKind.u32.wrap ((BitVec.ofInt 32 (a : Int) ^^^ BitVec.ofInt 32 (b : Int)).toNat : Int) = _
  rw [BitVec.toNat_xor, h1, h2, wrap_u32']
  omega
theorem Rotate_calls (n x : Nat) (h1 : 1 ≤ n) (hn : n ≤ 31) (hx : x < 4294967296) (w : World) :
    Calls Tryd.prog 152 #[.int .u32 x, .int .i64 (-(n : Int))] w fun e w' => e = .returned (.int .u32 (rotr n x : Nat)) ∧ w' = w := by
  have hw : IntKind.u64.wrap (-(n : Int)) = ((18446744073709551616 - n : Nat) : Int) := by rw [IntKind.wrap_u64]; omega
  have ha : bits .and .u64 ((18446744073709551616 - n : Nat) : Int) 31 = ((32 - n : Nat) : Int) := by
    rw [show (31 : Int) = ((31 : Nat) : Int) from rfl, bits_and_u64_nat _ _ (by omega) (by decide)]
    rw [show (31 : Nat) = 2 ^ 5 - 1 from rfl, Nat.and_two_pow_sub_one_eq_mod]
    omega
  go_enter Tryd.func152, Tryd.ntmps152
  go_wp2
  go_ret
  refine ⟨?_, rfl⟩
  have e1 : 32 - (32 - n) = n := by omega
  have e2 : (x : Int) * 2 ^ (32 - n) % 4294967296 = ((x * 2 ^ (32 - n) % 4294967296 : Nat) : Int) := by rw [Int.natCast_emod, Int.natCast_mul, Int.natCast_pow]; rfl
  have e3 : (x : Int) / 2 ^ n = ((x / 2 ^ n : Nat) : Int) := by norm_cast
  rw [e1, e2, e3, bits_or_u32N _ _ (Nat.mod_lt _ (by decide)) (Nat.lt_of_le_of_lt (Nat.div_le_self _ _) hx), rotr_or n x (by omega) hx]
  rfl
theorem be_step (p c : Int) (hp : 0 ≤ p ∧ p < 16777216) (hc : 0 ≤ c ∧ c < 256) : bits .or .u64 (IntKind.u64.wrap (p * 256)) (IntKind.u64.wrap c) = p * 256 + c := by
  obtain ⟨P, rfl⟩ := Int.eq_ofNat_of_zero_le hp.1
  obtain ⟨C, rfl⟩ := Int.eq_ofNat_of_zero_le hc.1
  have h1 : IntKind.u64.wrap ((P : Int) * 256) = ((2 ^ 8 * P : Nat) : Int) := by rw [IntKind.wrap_u64]; omega
  have h2 : IntKind.u64.wrap (C : Int) = ((C : Nat) : Int) := by rw [IntKind.wrap_u64]; omega
  rw [h1, h2, bits_or_u64_nat _ _ (by omega) (by omega), ← Nat.two_pow_add_eq_or_of_lt (by omega)]
  omega
theorem number_calls (A : Option Addr) (c : Nat) (l : List Int) (w : World) (hr : ReadsInt w .u8 A l.length l) (hl : l.length ≤ 4) (hb : ∀ x ∈ l, 0 ≤ x ∧ x < 256) :
    Calls Tryd.prog 151 #[.slice A l.length c] w fun e w' => e = .returned (.int .u64 (be l)) ∧ w' = w := by
  go_enter Tryd.func151, Tryd.ntmps151
  go_wp2
  go_loop [3, 8] (fun v3 v8 => ∃ i : Nat, v3 = .int .u64 (be (l.take i)) ∧ v8 = .int .i64 i ∧ i ≤ l.length) (fun v3 v8 => l.length - (intOf v8).toNat)
  case atStart => exact ⟨0, rfl, rfl, by omega⟩
  case round =>
    obtain ⟨i, rfl, rfl, hi⟩ := hrel
    by_cases hlt : i < l.length
    · obtain ⟨ad, rfl, hcell⟩ := hr.at_ i (by omega) (by omega)
      have hrd : rd l (i : Int) = l[i] := by simp [rd, List.getD_eq_getElem?_getD, hlt]
      rw [hrd, Int.toNat_natCast] at hcell
      have hd : decide ((i : Int) < (l.length : Int)) = true := decide_eq_true (by omega)
      have hpb := be_bd (l.take i) (fun x hx => hb x (List.mem_of_mem_take hx))
      have hl3 : (l.take i).length ≤ 3 := by rw [List.length_take]; omega
      have hp3 : be (l.take i) < 16777216 := by
        have h2 := hpb.2
        have h4 : (l.take i).length = 0 ∨ (l.take i).length = 1 ∨ (l.take i).length = 2 ∨ (l.take i).length = 3 := by omega
        rcases h4 with h4 | h4 | h4 | h4 <;> rw [h4] at h2 <;> omega
      have hstep := be_step (be (l.take i)) l[i] ⟨hpb.1, hp3⟩ (hb _ (List.getElem_mem _))
      rw [← be_snoc, ← List.take_succ_eq_append_getElem hlt] at hstep
      have HS := Lib.hid hstep
      clear hr hrd hpb hl3 hp3 hstep
      go_wp2
      refine ⟨⟨i + 1, by rw [HS.out], rfl, by omega⟩, by simp only [intOf]; omega⟩
    · have hd : decide ((i : Int) < (l.length : Int)) = false := decide_eq_false (by omega)
      have he : l.take i = l := List.take_of_length_le (by omega)
      rw [he]
      clear hr
      go_wp2
      go_ret
      exact ⟨rfl, rfl⟩
end Go.Proofs.YtoeibcdnhglobaaDoor.P
