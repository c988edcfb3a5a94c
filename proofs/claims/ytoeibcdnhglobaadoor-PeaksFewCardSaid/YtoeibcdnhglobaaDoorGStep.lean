/- The words of one step of SHA-256 in the model's bit words, as plain numbers. -/
import Derived.Test.YtoeibcdnhglobaaDoorGBits
import Derived.Test.YtoeibcdnhglobaaDoorPureSha
namespace Go.Proofs.YtoeibcdnhglobaaDoor.P
set_option linter.unusedVariables false
set_option linter.unusedSimpArgs false
open Go.Proofs.YtoeibcdnhglobaaDoor.Pure
theorem bits_sig (a b c x : Nat) (ha : a ≤ 32) (hb : b ≤ 32) (hc : c ≤ 32) (hx : x < 4294967296) :
    bits .xor .u32 (bits .xor .u32 (rotr a x : Nat) (rotr b x : Nat)) (rotr c x : Nat) = ((sig a b c x : Nat) : Int) := by
  rw [bits_xor_u32N _ _ (rotr_lt a x ha hx) (rotr_lt b x hb hx), bits_xor_u32N _ _ (Nat.xor_lt_two_pow (n := 32) (rotr_lt a x ha hx) (rotr_lt b x hb hx)) (rotr_lt c x hc hx)]
  rfl
theorem bits_ch (e f g : Nat) (he : e < 4294967296) (hf : f < 4294967296) (hg : g < 4294967296) :
    bits .xor .u32 (g : Int) (bits .and .u32 (e : Int) (bits .xor .u32 (f : Int) (g : Int))) = ((chN e f g : Nat) : Int) := by
  rw [bits_xor_u32N _ _ hf hg, bits_and_u32_nat _ _ he (Nat.xor_lt_two_pow (n := 32) hf hg), bits_xor_u32N _ _ hg (Nat.and_lt_two_pow (n := 32) _ (Nat.xor_lt_two_pow (n := 32) hf hg)), ch_eq e f g he hf hg]
theorem bits_maj (a b c : Nat) (ha : a < 4294967296) (hb : b < 4294967296) (hc : c < 4294967296) :
    bits .or .u32 (bits .and .u32 (a : Int) (b : Int)) (bits .and .u32 (c : Int) (bits .or .u32 (a : Int) (b : Int))) = ((majN a b c : Nat) : Int) := by
  rw [bits_and_u32_nat _ _ ha hb, bits_or_u32N _ _ ha hb, bits_and_u32_nat _ _ hc (Nat.or_lt_two_pow (n := 32) ha hb), bits_or_u32N _ _ (Nat.and_lt_two_pow (n := 32) _ hb) (Nat.and_lt_two_pow (n := 32) _ (Nat.or_lt_two_pow (n := 32) ha hb)), maj_eq]
end Go.Proofs.YtoeibcdnhglobaaDoor.P
