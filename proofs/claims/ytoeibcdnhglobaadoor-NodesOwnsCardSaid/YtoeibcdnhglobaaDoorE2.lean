/- Texts of the seat, joined: GBits, GStep, GMix. -/
import Derived.Test.YtoeibcdnhglobaaDoorE1
import Derived.Test.YtoeibcdnhglobaaDoorE0
import Derived.Laws.Bits64b
/- digest.number and bits.RotateLeft32: the walks. -/
namespace Go.Proofs.YtoeibcdnhglobaaDoor.P
set_option linter.unusedVariables false
set_option linter.unusedSimpArgs false
open Go.RowKit Go.Proofs.YtoeibcdnhglobaaDoorW.PrintWords Go.Proofs.YtoeibcdnhglobaaDoorW.PrintLast Go.Proofs.YtoeibcdnhglobaaDoorW.PrintMore
open Go.Proofs.YtoeibcdnhglobaaDoor.Pure

theorem bits_or_u32N (a b : Nat) (ha : a < 4294967296) (hb : b < 4294967296) : bits .or .u32 (a : Int) (b : Int) = ((a ||| b : Nat) : Int) := by
  have hx : a ||| b < 2 ^ 32 := Nat.or_lt_two_pow (by omega) (by omega)
  have h1 : (BitVec.ofInt 32 (a : Int)).toNat = a := by
    rw [BitVec.ofInt_natCast, BitVec.toNat_ofNat]; exact Nat.mod_eq_of_lt (by omega)
  have h2 : (BitVec.ofInt 32 (b : Int)).toNat = b := by
    rw [BitVec.ofInt_natCast, BitVec.toNat_ofNat]; exact Nat.mod_eq_of_lt (by omega)
  show IntKind.u32.wrap ((BitVec.ofInt 32 (a : Int) ||| BitVec.ofInt 32 (b : Int)).toNat : Int) = _
  rw [BitVec.toNat_or, h1, h2, wrap_u32']
  omega
theorem bits_xor_u32N (a b : Nat) (ha : a < 4294967296) (hb : b < 4294967296) : bits .xor .u32 (a : Int) (b : Int) = ((a ^^^ b : Nat) : Int) := by
  have hx : a ^^^ b < 2 ^ 32 := Nat.xor_lt_two_pow (by omega) (by omega)
  have h1 : (BitVec.ofInt 32 (a : Int)).toNat = a := by
    rw [BitVec.ofInt_natCast, BitVec.toNat_ofNat]; exact Nat.mod_eq_of_lt (by omega)
  have h2 : (BitVec.ofInt 32 (b : Int)).toNat = b := by
    rw [BitVec.ofInt_natCast, BitVec.toNat_ofNat]; exact Nat.mod_eq_of_lt (by omega)
  show IntKind.u32.wrap ((BitVec.ofInt 32 (a : Int) ^^^ BitVec.ofInt 32 (b : Int)).toNat : Int) = _
  rw [BitVec.toNat_xor, h1, h2, wrap_u32']
  omega
theorem Rotate_calls (n x : Nat) (h1 : 1 ≤ n) (hn : n ≤ 31) (hx : x < 4294967296) (w : World) :
    Calls Tryd.prog 152 #[.int .u32 x, .int .i64 (-(n : Int))] w fun e w' => e = .returned (.int .u32 (rotr n x : Nat)) ∧ w' = w := by
  have hw : IntKind.u64.wrap (-(n : Int)) = ((18446744073709551616 - n : Nat) : Int) := by rw [IntKind.wrap_u64]; omega
  have ha : bits .and .u64 ((18446744073709551616 - n : Nat) : Int) 31 = ((32 - n : Nat) : Int) := by
    rw [show (31 : Int) = ((31 : Nat) : Int) from rfl, bits_and_u64_nat _ _ (by omega) (by decide)]
    rw [show (31 : Nat) = 2 ^ 5 - 1 from rfl, Nat.and_two_pow_sub_one_eq_mod]
    omega
  go_enter Tryd.func152, Tryd.ntmps152
  go_wp2
  go_ret
  refine ⟨?_, rfl⟩
  have e1 : 32 - (32 - n) = n := by omega
  have e2 : (x : Int) * 2 ^ (32 - n) % 4294967296 = ((x * 2 ^ (32 - n) % 4294967296 : Nat) : Int) := by rw [Int.natCast_emod, Int.natCast_mul, Int.natCast_pow]; rfl
  have e3 : (x : Int) / 2 ^ n = ((x / 2 ^ n : Nat) : Int) := by norm_cast
  rw [e1, e2, e3, bits_or_u32N _ _ (Nat.mod_lt _ (by decide)) (Nat.lt_of_le_of_lt (Nat.div_le_self _ _) hx), rotr_or n x (by omega) hx]
  rfl
theorem be_step (p c : Int) (hp : 0 ≤ p ∧ p < 16777216) (hc : 0 ≤ c ∧ c < 256) : bits .or .u64 (IntKind.u64.wrap (p * 256)) (IntKind.u64.wrap c) = p * 256 + c := by
  obtain ⟨P, rfl⟩ := Int.eq_ofNat_of_zero_le hp.1
  obtain ⟨C, rfl⟩ := Int.eq_ofNat_of_zero_le hc.1
  have h1 : IntKind.u64.wrap ((P : Int) * 256) = ((2 ^ 8 * P : Nat) : Int) := by rw [IntKind.wrap_u64]; omega
  have h2 : IntKind.u64.wrap (C : Int) = ((C : Nat) : Int) := by rw [IntKind.wrap_u64]; omega
  rw [h1, h2, bits_or_u64_nat _ _ (by omega) (by omega), ← Nat.two_pow_add_eq_or_of_lt (by omega)]
  omega
theorem number_calls (A : Option Addr) (c : Nat) (l : List Int) (w : World) (hr : ReadsInt w .u8 A l.length l) (hl : l.length ≤ 4) (hb : ∀ x ∈ l, 0 ≤ x ∧ x < 256) :
    Calls Tryd.prog 151 #[.slice A l.length c] w fun e w' => e = .returned (.int .u64 (be l)) ∧ w' = w := by
  go_enter Tryd.func151, Tryd.ntmps151
  go_wp2
  go_loop [3, 8] (fun v3 v8 => ∃ i : Nat, v3 = .int .u64 (be (l.take i)) ∧ v8 = .int .i64 i ∧ i ≤ l.length) (fun v3 v8 => l.length - (intOf v8).toNat)
  case atStart => exact ⟨0, rfl, rfl, by omega⟩
  case round =>
    obtain ⟨i, rfl, rfl, hi⟩ := hrel
    by_cases hlt : i < l.length
    · obtain ⟨ad, rfl, hcell⟩ := hr.at_ i (by omega) (by omega)
      have hrd : rd l (i : Int) = l[i] := by simp [rd, List.getD_eq_getElem?_getD, hlt]
      rw [hrd, Int.toNat_natCast] at hcell
      have hd : decide ((i : Int) < (l.length : Int)) = true := decide_eq_true (by omega)
      have hpb := be_bd (l.take i) (fun x hx => hb x (List.mem_of_mem_take hx))
      have hl3 : (l.take i).length ≤ 3 := by rw [List.length_take]; omega
      have hp3 : be (l.take i) < 16777216 := by
        have h2 := hpb.2
        have h4 : (l.take i).length = 0 ∨ (l.take i).length = 1 ∨ (l.take i).length = 2 ∨ (l.take i).length = 3 := by omega
        rcases h4 with h4 | h4 | h4 | h4 <;> rw [h4] at h2 <;> omega
      have hstep := be_step (be (l.take i)) l[i] ⟨hpb.1, hp3⟩ (hb _ (List.getElem_mem _))
      rw [← be_snoc, ← List.take_succ_eq_append_getElem hlt] at hstep
      have HS := Lib.hid hstep
      clear hr hrd hpb hl3 hp3 hstep
      go_wp2
      refine ⟨⟨i + 1, by rw [HS.out], rfl, by omega⟩, by simp only [intOf]; omega⟩
    · have hd : decide ((i : Int) < (l.length : Int)) = false := decide_eq_false (by omega)
      have he : l.take i = l := List.take_of_length_le (by omega)
      rw [he]
      clear hr
      go_wp2
      go_ret
      exact ⟨rfl, rfl⟩
end Go.Proofs.YtoeibcdnhglobaaDoor.P

/- The words of one step of SHA-256 in the model's bit words, as plain numbers. -/
namespace Go.Proofs.YtoeibcdnhglobaaDoor.P
set_option linter.unusedVariables false
set_option linter.unusedSimpArgs false
open Go.Proofs.YtoeibcdnhglobaaDoor.Pure
theorem bits_sig (a b c x : Nat) (ha : a ≤ 32) (hb : b ≤ 32) (hc : c ≤ 32) (hx : x < 4294967296) :
    bits .xor .u32 (bits .xor .u32 (rotr a x : Nat) (rotr b x : Nat)) (rotr c x : Nat) = ((sig a b c x : Nat) : Int) := by
  rw [bits_xor_u32N _ _ (rotr_lt a x ha hx) (rotr_lt b x hb hx), bits_xor_u32N _ _ (Nat.xor_lt_two_pow (n := 32) (rotr_lt a x ha hx) (rotr_lt b x hb hx)) (rotr_lt c x hc hx)]
  rfl
theorem bits_ch (e f g : Nat) (he : e < 4294967296) (hf : f < 4294967296) (hg : g < 4294967296) :
    bits .xor .u32 (g : Int) (bits .and .u32 (e : Int) (bits .xor .u32 (f : Int) (g : Int))) = ((chN e f g : Nat) : Int) := by
  rw [bits_xor_u32N _ _ hf hg, bits_and_u32_nat _ _ he (Nat.xor_lt_two_pow (n := 32) hf hg), bits_xor_u32N _ _ hg (Nat.and_lt_two_pow (n := 32) _ (Nat.xor_lt_two_pow (n := 32) hf hg)), ch_eq e f g he hf hg]
theorem bits_maj (a b c : Nat) (ha : a < 4294967296) (hb : b < 4294967296) (hc : c < 4294967296) :
    bits .or .u32 (bits .and .u32 (a : Int) (b : Int)) (bits .and .u32 (c : Int) (bits .or .u32 (a : Int) (b : Int))) = ((majN a b c : Nat) : Int) := by
  rw [bits_and_u32_nat _ _ ha hb, bits_or_u32N _ _ ha hb, bits_and_u32_nat _ _ hc (Nat.or_lt_two_pow (n := 32) ha hb), bits_or_u32N _ _ (Nat.and_lt_two_pow (n := 32) _ hb) (Nat.and_lt_two_pow (n := 32) _ (Nat.or_lt_two_pow (n := 32) ha hb)), maj_eq]
end Go.Proofs.YtoeibcdnhglobaaDoor.P

/- digest.mix32: the walk. -/
namespace Go.Proofs.YtoeibcdnhglobaaDoor.P
set_option linter.unusedVariables false
set_option linter.unusedSimpArgs false
open Go.RowKit Go.Proofs.YtoeibcdnhglobaaDoorW.PrintWords Go.Proofs.YtoeibcdnhglobaaDoorW.PrintLast Go.Proofs.YtoeibcdnhglobaaDoorW.PrintMore
open Go.Proofs.YtoeibcdnhglobaaDoor.Pure

/-- An array of words of 32 bits lies at block B. -/
def Arr (W : World) (B : Nat) (t : TypeId) (xs : List Nat) : Prop := W.heap[B]? = some (.cells ((xs.map fun x : Nat => Value.int .u32 x).toArray) t (0, 0))
theorem Arr.cell {W : World} {B : Nat} {t : TypeId} {xs : List Nat} (h : Arr W B t xs) (i : Nat) (hi : i < xs.length) : W.cell? ⟨B, i, none⟩ = some (.int .u32 (xs.getD i 0 : Nat)) := by
  simp [World.cell?, show W.heap[B]? = _ from h, hi, List.getD_eq_getElem?_getD]
theorem Arr.frozen {W : World} {B : Nat} {t : TypeId} {xs : List Nat} (h : Arr W B t xs) (i : Nat) : W.frozen? ⟨B, i, none⟩ = false := by
  simp [World.frozen?, show W.heap[B]? = _ from h]
theorem Arr.set {W : World} {B : Nat} {t : TypeId} {xs : List Nat} (h : Arr W B t xs) (i : Nat) (v : Nat) : Arr (W.setCell ⟨B, i, none⟩ (.int .u32 v)) B t (xs.set i v) := by
  unfold Arr
  rw [heap_setCell_same W B i _ t _ h]
  simp [List.map_set]
theorem Arr.far {W W' : World} {B : Nat} {t : TypeId} {xs : List Nat} (h : Arr W B t xs) (hb : W'.heap[B]? = W.heap[B]?) : Arr W' B t xs := hb.trans h
theorem Arr.lt {W : World} {B : Nat} {t : TypeId} {xs : List Nat} (h : Arr W B t xs) : B < W.heap.size := (Array.getElem?_eq_some_iff.1 h).1
/-- The first t words of a schedule. -/
def sV (w16 : List Nat) (t : Nat) : List Nat := if t ≤ 16 then w16.take t else sch w16 (t - 16)

theorem sV_ge (w16 : List Nat) (t : Nat) (hw : w16.length = 16) (ht : 16 ≤ t) : sV w16 t = sch w16 (t - 16) := by
  unfold sV
  split
  · obtain rfl : t = 16 := by omega
    rw [List.take_of_length_le (by omega)]; rfl
  · rfl
theorem getD_take (xs : List Nat) (t i : Nat) (h : i < t) : (xs.take t).getD i 0 = xs.getD i 0 := by
  simp [List.getD_eq_getElem?_getD, h]
theorem sV_high (xs w16 : List Nat) (t : Nat) (hl : xs.length = 64) (ht : 16 ≤ t) (ht2 : t < 64) (hw : w16.length = 16) (h : xs.take t = sV w16 t) :
    (xs.set t ((sigS 17 19 10 (xs.getD (t - 2) 0) + xs.getD (t - 7) 0 + sigS 7 18 3 (xs.getD (t - 15) 0) + xs.getD (t - 16) 0) % 4294967296)).take (t + 1) = sV w16 (t + 1) := by
  rw [sV_ge _ _ hw ht] at h
  rw [sV_ge _ _ hw (by omega), show t + 1 - 16 = (t - 16) + 1 by omega, List.take_succ_eq_append_getElem (by simp; omega)]
  simp only [sch]
  rw [← h, List.take_set_of_le (Nat.le_refl t)]
  congr 1
  simp only [List.getElem_set_self]
  have hlen : (xs.take t).length = t := by rw [List.length_take]; omega
  unfold nextW
  rw [hlen, getD_take _ _ _ (by omega), getD_take _ _ _ (by omega), getD_take _ _ _ (by omega), getD_take _ _ _ (by omega)]
theorem sV_lt (l : List Int) (hb : ∀ x ∈ l, 0 ≤ x ∧ x < 256) (t i : Nat) (xs : List Nat) (hx : xs.take t = sV (words l) t) (ht : 16 ≤ t) (hi : i < t) : xs.getD i 0 < 4294967296 := by
  rw [← getD_take xs t i hi, hx, sV_ge _ _ (by simp [words]) ht, List.getD_eq_getElem?_getD]
  cases h : (sch (words l) (t - 16))[i]? with
  | none => simp
  | some y => exact sch_lt _ (words_lt l hb) _ y (List.mem_of_getElem? h)
theorem quietAt {P : Program} {f : FuncId} {args : Array Value} {w : World} {q n : Nat} {v : Value} (h : Calls P f args (w.drewN (q + n)) fun e w' => e = .returned v ∧ w' = w.drewN (q + n)) :
    Calls P f args (w.drewN (q + n)) fun e w'' => e = .returned v ∧ ∃ m, w'' = w.drewN (q + m) := h.mono fun _ _ ⟨he, hm⟩ => ⟨he, n, hm⟩
theorem Rot (n : Nat) (h1 : 1 ≤ n) (hn : n ≤ 31) (x : Nat) (hx : x < 4294967296) (w : World) (m : Int) (hm : m = -(n : Int)) :
    Calls Tryd.prog 152 #[.int .u32 x, .int .i64 m] w fun e w' => e = .returned (.int .u32 (rotr n x : Nat)) ∧ w' = w := by
  subst hm; exact Rotate_calls n x h1 hn hx w
theorem sV_low (xs w16 : List Nat) (t v : Nat) (hx : t < xs.length) (h16 : t < 16) (hw : t < w16.length) (h : xs.take t = sV w16 t) (hv : w16.getD t 0 = v) : (xs.set t v).take (t + 1) = sV w16 (t + 1) := by
  rw [List.take_succ_eq_append_getElem (by simpa using hx)]
  unfold sV at h ⊢
  rw [if_pos (by omega)] at h ⊢
  rw [List.take_succ_eq_append_getElem hw, ← h, List.take_set_of_le (Nat.le_refl t)]
  congr 1
  simp only [List.getElem_set_self]
  rw [← hv]
  simp [List.getD_eq_getElem?_getD, hw]
theorem K32_at (t : Nat) (ht : t < 64) : K32.getD t 0 = K64.getD t 0 / 4294967296 := by
  have key : ∀ t, t < 64 → K32.getD t 0 = K64.getD t 0 / 4294967296 := by decide
  exact key t ht
theorem far8 {W : World} {n0 B : Nat} {t : TypeId} {xs : List Nat} (h : Arr W B t xs) (hne : B ≠ n0) (v0 v1 v2 v3 v4 v5 v6 v7 : Value) :
    Arr ((((((((W.setCell ⟨n0, 0, none⟩ v0).setCell ⟨n0, 1, none⟩ v1).setCell ⟨n0, 2, none⟩ v2).setCell ⟨n0, 3, none⟩ v3).setCell ⟨n0, 4, none⟩ v4).setCell ⟨n0, 5, none⟩ v5).setCell ⟨n0, 6, none⟩ v6).setCell ⟨n0, 7, none⟩ v7) B t xs :=
  h.far (by rw [Below.heap_setCell _ _ _ _ hne, Below.heap_setCell _ _ _ _ hne, Below.heap_setCell _ _ _ _ hne, Below.heap_setCell _ _ _ _ hne, Below.heap_setCell _ _ _ _ hne, Below.heap_setCell _ _ _ _ hne, Below.heap_setCell _ _ _ _ hne, Below.heap_setCell _ _ _ _ hne])
theorem step_end {w W : World} {n0 n3 : Nat} {s0 s1 s2 s3 s4 s5 s6 s7 Kt Wt : Nat} {xs ys : List Nat} (hS : Arr W n0 161 [s0, s1, s2, s3, s4, s5, s6, s7]) (hR : Arr W (n0 + 1) 161 (List.replicate 8 0)) (hV : Arr W (n0 + 1 + 1) 175 xs) (hA : Arr W n3 161 ys) (hB : Below n0 w W) (h3 : n0 + 1 + 1 < n3) :
    ∀ W', W' = ((((((((W.setCell ⟨n0, 0, none⟩ (.int .u32 (((s7 : Int) + ((sig 6 11 25 s4 : Nat) : Int) + ((chN s4 s5 s6 : Nat) : Int) + (Kt : Int) / 4294967296 + (Wt : Int) + (((sig 2 13 22 s0 : Nat) : Int) + ((majN s0 s1 s2 : Nat) : Int))) % 4294967296))).setCell ⟨n0, 1, none⟩ (.int .u32 (s0 : Int))).setCell ⟨n0, 2, none⟩ (.int .u32 (s1 : Int))).setCell ⟨n0, 3, none⟩ (.int .u32 (s2 : Int))).setCell ⟨n0, 4, none⟩ (.int .u32 (((s3 : Int) + ((s7 : Int) + ((sig 6 11 25 s4 : Nat) : Int) + ((chN s4 s5 s6 : Nat) : Int) + (Kt : Int) / 4294967296 + (Wt : Int))) % 4294967296))).setCell ⟨n0, 5, none⟩ (.int .u32 (s4 : Int))).setCell ⟨n0, 6, none⟩ (.int .u32 (s5 : Int))).setCell ⟨n0, 7, none⟩ (.int .u32 (s6 : Int))) →
      Arr W' n0 161 (stepN [s0, s1, s2, s3, s4, s5, s6, s7] (Kt / 4294967296) Wt) ∧ Arr W' (n0 + 1) 161 (List.replicate 8 0) ∧ Arr W' (n0 + 1 + 1) 175 xs ∧ Arr W' n3 161 ys ∧ Below n0 w W' := by
  rintro W' rfl
  refine ⟨?_, far8 hR (by omega) .., far8 hV (by omega) .., far8 hA (by omega) .., ?_⟩
  · have e0 : ((s7 : Int) + ((sig 6 11 25 s4 : Nat) : Int) + ((chN s4 s5 s6 : Nat) : Int) + (Kt : Int) / 4294967296 + (Wt : Int) + (((sig 2 13 22 s0 : Nat) : Int) + ((majN s0 s1 s2 : Nat) : Int))) % 4294967296 =
        ((((s7 + sig 6 11 25 s4 + chN s4 s5 s6 + Kt / 4294967296 + Wt) % 4294967296 + (sig 2 13 22 s0 + majN s0 s1 s2) % 4294967296) % 4294967296 : Nat) : Int) := by omega
    have e4 : ((s3 : Int) + ((s7 : Int) + ((sig 6 11 25 s4 : Nat) : Int) + ((chN s4 s5 s6 : Nat) : Int) + (Kt : Int) / 4294967296 + (Wt : Int))) % 4294967296 =
        (((s3 + (s7 + sig 6 11 25 s4 + chN s4 s5 s6 + Kt / 4294967296 + Wt) % 4294967296) % 4294967296 : Nat) : Int) := by omega
    rw [e0, e4]
    exact (((((((hS.set 0 _).set 1 _).set 2 _).set 3 _).set 4 _).set 5 _).set 6 _).set 7 _
  · exact (((((((hB.setCell (p := ⟨n0, 0, none⟩) (Nat.le_refl _) _).setCell (p := ⟨n0, 1, none⟩) (Nat.le_refl _) _).setCell (p := ⟨n0, 2, none⟩) (Nat.le_refl _) _).setCell (p := ⟨n0, 3, none⟩) (Nat.le_refl _) _).setCell (p := ⟨n0, 4, none⟩) (Nat.le_refl _) _).setCell (p := ⟨n0, 5, none⟩) (Nat.le_refl _) _).setCell (p := ⟨n0, 6, none⟩) (Nat.le_refl _) _).setCell (p := ⟨n0, 7, none⟩) (Nat.le_refl _) _
/-- The sums of the first i words, behind them the rest. -/
def addUp (st s : List Nat) (i : Nat) : List Nat := ((st.zip s).map fun p => (p.1 + p.2) % 4294967296).take i ++ st.drop i
theorem addUp_length (st s : List Nat) (i : Nat) (h : st.length = 8) (h2 : s.length = 8) (hi : i ≤ 8) : (addUp st s i).length = 8 := by
  unfold addUp; simp only [List.length_append, List.length_take, List.length_map, List.length_zip, List.length_drop, h, h2]; omega
theorem addUp_at (st s : List Nat) (i : Nat) (h : st.length = 8) (h2 : s.length = 8) (hi : i < 8) : (addUp st s i).getD i 0 = st.getD i 0 := by
  unfold addUp
  have hl : (((st.zip s).map fun p => (p.1 + p.2) % 4294967296).take i).length = i := by simp only [List.length_take, List.length_map, List.length_zip, h, h2]; omega
  rw [List.getD_eq_getElem?_getD, List.getElem?_append_right (by omega), hl, Nat.sub_self, List.getElem?_drop, Nat.add_zero, List.getD_eq_getElem?_getD]
theorem addUp_set (st s : List Nat) (i : Nat) (h : st.length = 8) (h2 : s.length = 8) (hi : i < 8) : (addUp st s i).set i ((st.getD i 0 + s.getD i 0) % 4294967296) = addUp st s (i + 1) := by
  unfold addUp
  have hm : ((st.zip s).map fun p => (p.1 + p.2) % 4294967296).length = 8 := by simp only [List.length_map, List.length_zip, h, h2]; omega
  have hl : (((st.zip s).map fun p => (p.1 + p.2) % 4294967296).take i).length = i := by rw [List.length_take]; omega
  rw [List.set_append_right _ _ (by omega), hl, Nat.sub_self, List.drop_eq_getElem_cons (by omega : i < st.length), List.set_cons_zero, List.take_succ_eq_append_getElem (by omega : i < ((st.zip s).map fun p => (p.1 + p.2) % 4294967296).length), List.append_assoc, List.singleton_append]
  congr 2
  simp only [List.getElem_map, List.getElem_zip]
  simp [List.getD_eq_getElem?_getD, show i < st.length by omega, show i < s.length by omega]
theorem list8 (l : List Nat) (h : l.length = 8) : ∃ r0 r1 r2 r3 r4 r5 r6 r7, l = [r0, r1, r2, r3, r4, r5, r6, r7] := by
  match l, h with
  | [r0, r1, r2, r3, r4, r5, r6, r7], _ => exact ⟨_, _, _, _, _, _, _, _, rfl⟩
theorem addUp_8 (st s : List Nat) (h : st.length = 8) (h2 : s.length = 8) : addUp st s 8 = (st.zip s).map fun p => (p.1 + p.2) % 4294967296 := by
  unfold addUp
  rw [List.take_of_length_le (by simp only [List.length_map, List.length_zip, h, h2]; omega), List.drop_eq_nil_of_le (by omega), List.append_nil]
theorem ret_world {P : Program} {f : Func} {R : Ending → World → Prop} {e : Exit} {a : Act} {W : World} (F : World → Prop) (hF : F W) (h : ∀ W0, F W0 → bodyPost P f R e a W0) : bodyPost P f R e a W := h W hF
/-- A state comes back; what lay below B lies as it lay. -/
def RetArr (s : List Nat) (B : Nat) (w : World) (e : Ending) (w' : World) : Prop := e = .returned (.agg ((s.map fun x : Nat => Value.int .u32 x).toArray)) ∧ Below B w w'
theorem at_world {P : Program} {c : Code} {Q : Exit → Act → World → Prop} {a : Act} {W : World} (F : World → Prop) (hF : F W) (h : ∀ W0, F W0 → Code.wp P c Q a W0) : Code.wp P c Q a W := h W hF
theorem inf5 : (Tryd.prog.info? 5).map (fun i => (i.zero, i.size, i.bytes)) = some (some (.int .u8 0), 1, 1) := by kernel_rfl
set_option maxRecDepth 100000 in
set_option maxHeartbeats 8000000 in
theorem mix32_8 (a b c d e f g h : Nat) (A : Option Addr) (cap : Nat) (l : List Int) (hl : l.length = 64) (hc : 64 ≤ cap) (w : World) (hr : ReadsInt w .u8 A 64 l) (hb : ∀ x ∈ l, 0 ≤ x ∧ x < 256) (hs : ∀ x ∈ [a, b, c, d, e, f, g, h], x < 4294967296) (hK : ∀ j, j < 64 → w.cell? ⟨3, j, none⟩ = some (.int .u64 (K64.getD j 0 : Nat))) :
    Calls Tryd.prog 133 #[.agg #[.int .u32 a, .int .u32 b, .int .u32 c, .int .u32 d, .int .u32 e, .int .u32 f, .int .u32 g, .int .u32 h], .slice A 64 cap] w (RetArr (blockN [a, b, c, d, e, f, g, h] (words l)) w.heap.size w) := by
  obtain ⟨n0, hn0⟩ : ∃ n0, w.heap.size = n0 := ⟨_, rfl⟩
  have HLn := Lib.hid hl
  have HSs := Lib.hid hs
  have HK := Lib.hid hK
  clear hl hs hK
  go_enter Tryd.func133, Tryd.ntmps133
  go_wp2
  refine at_world (fun W0 => Arr W0 n0 161 [a, b, c, d, e, f, g, h] ∧ Arr W0 (n0 + 1) 161 (List.replicate 8 0) ∧ Arr W0 (n0 + 1 + 1) 175 (List.replicate 64 0) ∧ Below n0 w W0) ⟨?_, ?_, ?_, ?_⟩ ?_
  · unfold Arr
    rw [Below.heap_alloc _ _ _ (by simp; omega), Below.heap_alloc _ _ _ (by simp; omega), ← hn0, heap_alloc_new]
    rfl
  · unfold Arr
    rw [Below.heap_alloc _ _ _ (by simp; omega)]
    have := heap_alloc_new (w.alloc (.cells #[.int .u32 a, .int .u32 b, .int .u32 c, .int .u32 d, .int .u32 e, .int .u32 f, .int .u32 g, .int .u32 h] 161)) (.cells ((List.replicate 8 0).map fun x : Nat => Value.int .u32 x).toArray 161)
    rw [World.size_alloc, hn0] at this
    exact this
  · unfold Arr
    have := heap_alloc_new ((w.alloc (.cells #[.int .u32 a, .int .u32 b, .int .u32 c, .int .u32 d, .int .u32 e, .int .u32 f, .int .u32 g, .int .u32 h] 161)).alloc (.cells ((List.replicate 8 0).map fun x : Nat => Value.int .u32 x).toArray 161)) (.cells ((List.replicate 64 0).map fun x : Nat => Value.int .u32 x).toArray 175)
    rw [World.size_alloc, World.size_alloc, hn0] at this
    exact this
  · have h0 := ((((Below.refl n0 w).alloc (Nat.le_of_eq hn0.symm) (.cells #[.int .u32 a, .int .u32 b, .int .u32 c, .int .u32 d, .int .u32 e, .int .u32 f, .int .u32 g, .int .u32 h] 161)).alloc (by simp; omega) (.cells ((List.replicate 8 0).map fun x : Nat => Value.int .u32 x).toArray 161)).alloc (by simp; omega) (.cells ((List.replicate 64 0).map fun x : Nat => Value.int .u32 x).toArray 175))
    exact h0
  rintro W0 ⟨hS0, hR0, hV0, hB0⟩
  have hwl : (words l).length = 16 := by simp [words]
  go_loopw [18] (fun v18 wr => ∃ (t : Nat) (xs : List Nat), v18 = .int .i64 t ∧ t ≤ 64 ∧ xs.length = 64 ∧ Arr wr n0 161 [a, b, c, d, e, f, g, h] ∧ Arr wr (n0 + 1) 161 (List.replicate 8 0) ∧ Arr wr (n0 + 1 + 1) 175 xs ∧ Below n0 w wr ∧ Hid (xs.take t = sV (words l) t)) (fun v18 _ => 64 - (intOf v18).toNat)
  case atStart => exact ⟨0, List.replicate 64 0, rfl, by omega, by simp, hS0, hR0, hV0, hB0, Lib.hid (by simp [sV])⟩
  case round =>
    obtain ⟨t, xs, rfl, ht, hxl, hS, hR, hV, hB, HX⟩ := hrel
    by_cases hlt : t < 64
    · have hd : decide ((t : Int) < 64) = true := decide_eq_true (by omega)
      by_cases h16 : t < 16
      · have hd2 : decide ((t : Int) < 16) = true := decide_eq_true (by omega)
        have hrd1 := (hr.below (Below.mono hB (Nat.le_of_eq hn0))).drop_ (c := cap) (4 * t) (by omega) hc
        rw [if_neg (by omega)] at hrd1
        have hrd2 := hrd1.take_ 4 (by omega)
        have hlen4 : ((l.drop (4 * t)).take 4).length = 4 := by rw [List.length_take, List.length_drop, HLn.out]; omega
        have hb4 : ∀ x ∈ (l.drop (4 * t)).take 4, 0 ≤ x ∧ x < 256 := fun x hx => hb x (List.mem_of_mem_drop (List.mem_of_mem_take hx))
        have hbe := be_bd _ hb4
        rw [hlen4] at hbe
        have kN := number_calls (A.map fun x => x.add (4 * t)) (cap - 4 * t) ((l.drop (4 * t)).take 4) wr (by rw [hlen4]; exact hrd2) (by omega) hb4
        have hwt : (words l).getD t 0 = (be ((l.drop (4 * t)).take 4)).toNat := by simp [words, List.getD_eq_getElem?_getD, h16]
        obtain ⟨v, hv⟩ : ∃ v : Nat, be ((l.drop (4 * t)).take 4) = (v : Int) := ⟨_, (Int.toNat_of_nonneg hbe.1).symm⟩
        rw [hv] at kN hwt hbe
        rw [Int.toNat_natCast] at hwt
        have hv32 : v < 4294967296 := by have := hbe.2; norm_cast at this
        have hwrap : IntKind.u32.wrap (v : Int) = v := by rw [IntKind.wrap_u32]; omega
        have hfz := hV.frozen t
        have hcl := hV.cell t (by omega)
        have hS2 := hS.far (W' := wr.setCell ⟨n0 + 1 + 1, t, none⟩ (.int .u32 v)) (Below.heap_setCell _ _ _ _ (by show n0 ≠ n0 + 1 + 1; omega))
        have hR2 := hR.far (W' := wr.setCell ⟨n0 + 1 + 1, t, none⟩ (.int .u32 v)) (Below.heap_setCell _ _ _ _ (by show n0 + 1 ≠ n0 + 1 + 1; omega))
        have hV2 := hV.set t v
        have hB2 := hB.setCell (p := ⟨n0 + 1 + 1, t, none⟩) (by show n0 ≤ n0 + 1 + 1; omega) (.int .u32 v)
        rw [hlen4] at kN
        clear hr hb hrd1 hrd2 hbe hv hS hR hV hB hlen4 hb4
        go_wp2_with (go_at_call 151; with_reducible refine kN.mono ?_; rintro e w2 ⟨rfl, hw2⟩; rw [hw2]; clear hw2 w2)
        go_roundw
        case rel => exact ⟨t + 1, xs.set t v, rfl, by omega, by simp [hxl], hS2, hR2, hV2, hB2, Lib.hid (sV_low _ _ _ _ (by omega) h16 (by omega) HX.out hwt)⟩
        case measure => simp only [intOf]; omega
      · have hd2 : decide ((t : Int) < 16) = false := decide_eq_false (by omega)
        have j15 : (0 : Int) ≤ (t : Int) - 15 := by omega
        have j15b : (t : Int) - 15 < 64 := by omega
        have j2 : (0 : Int) ≤ (t : Int) - 2 := by omega
        have j2b : (t : Int) - 2 < 64 := by omega
        have t15 : ((t : Int) - 15).toNat = t - 15 := by omega
        have t2 : ((t : Int) - 2).toNat = t - 2 := by omega
        have c15 := hV.cell (t - 15) (by omega)
        have c2 := hV.cell (t - 2) (by omega)
        obtain ⟨X, hXe⟩ : ∃ X, X = xs.getD (t - 15) 0 := ⟨_, rfl⟩
        obtain ⟨Y, hYe⟩ : ∃ Y, Y = xs.getD (t - 2) 0 := ⟨_, rfl⟩
        rw [← hXe] at c15
        rw [← hYe] at c2
        have hX : X < 4294967296 := hXe ▸ sV_lt l hb t (t - 15) xs HX.out (by omega) (by omega)
        have hY : Y < 4294967296 := hYe ▸ sV_lt l hb t (t - 2) xs HX.out (by omega) (by omega)
        have k7 := fun w => Rot 7 (by decide) (by decide) X hX w (-7) rfl
        have k18 := fun w => Rot 18 (by decide) (by decide) X hX w (-18) rfl
        have k17 := fun w => Rot 17 (by decide) (by decide) Y hY w (-17) rfl
        have k19 := fun w => Rot 19 (by decide) (by decide) Y hY w (-19) rfl
        have x1 := bits_xor_u32N (rotr 7 X) (rotr 18 X) (rotr_lt 7 X (by decide) hX) (rotr_lt 18 X (by decide) hX)
        have y1 := bits_xor_u32N (rotr 17 Y) (rotr 19 Y) (rotr_lt 17 Y (by decide) hY) (rotr_lt 19 Y (by decide) hY)
        have x2 : bits .xor .u32 ((rotr 7 X ^^^ rotr 18 X : Nat) : Int) ((X : Int) / 8) = ((sigS 7 18 3 X : Nat) : Int) := by
          rw [show (X : Int) / 8 = ((X / 8 : Nat) : Int) by omega, bits_xor_u32N _ _ (Nat.xor_lt_two_pow (n := 32) (rotr_lt 7 X (by decide) hX) (rotr_lt 18 X (by decide) hX)) (by omega)]
          rfl
        have y2 : bits .xor .u32 ((rotr 17 Y ^^^ rotr 19 Y : Nat) : Int) ((Y : Int) / 1024) = ((sigS 17 19 10 Y : Nat) : Int) := by
          rw [show (Y : Int) / 1024 = ((Y / 1024 : Nat) : Int) by omega, bits_xor_u32N _ _ (Nat.xor_lt_two_pow (n := 32) (rotr_lt 17 Y (by decide) hY) (rotr_lt 19 Y (by decide) hY)) (by omega)]
          rfl
        have j7 : (0 : Int) ≤ (t : Int) - 7 := by omega
        have j7b : (t : Int) - 7 < 64 := by omega
        have j16 : (0 : Int) ≤ (t : Int) - 16 := by omega
        have j16b : (t : Int) - 16 < 64 := by omega
        have t7 : ((t : Int) - 7).toNat = t - 7 := by omega
        have t16 : ((t : Int) - 16).toNat = t - 16 := by omega
        have c7 := hV.cell (t - 7) (by omega)
        have c16 := hV.cell (t - 16) (by omega)
        have ct := hV.cell t (by omega)
        have ft := hV.frozen t
        obtain ⟨Z, hZe⟩ : ∃ Z, Z = xs.getD (t - 7) 0 := ⟨_, rfl⟩
        obtain ⟨U, hUe⟩ : ∃ U, U = xs.getD (t - 16) 0 := ⟨_, rfl⟩
        rw [← hZe] at c7
        rw [← hUe] at c16
        have hnext : (xs.set t ((sigS 17 19 10 Y + Z + sigS 7 18 3 X + U) % 4294967296)).take (t + 1) = sV (words l) (t + 1) := by
          rw [hXe, hYe, hZe, hUe]
          exact sV_high xs (words l) t hxl (by omega) hlt hwl HX.out
        have HNX := Lib.hid hnext
        clear hZe hUe hnext
        have HXe := Lib.hid hXe
        have HYe := Lib.hid hYe
        have HXl := Lib.hid hX
        have HYl := Lib.hid hY
        clear hr hb hXe hYe hX hY
        go_wp2
        go_quiet (fail)
        go_wp2_with (first
          | (go_at_call 152; with_reducible refine (k7 _).mono ?_; rintro e w2 ⟨rfl, hw2⟩; rw [hw2]; clear hw2 w2)
          | (go_at_call 152; with_reducible refine (k18 _).mono ?_; rintro e w2 ⟨rfl, hw2⟩; rw [hw2]; clear hw2 w2)
          | (go_at_call 152; with_reducible refine (k17 _).mono ?_; rintro e w2 ⟨rfl, hw2⟩; rw [hw2]; clear hw2 w2)
          | (go_at_call 152; with_reducible refine (k19 _).mono ?_; rintro e w2 ⟨rfl, hw2⟩; rw [hw2]; clear hw2 w2))
        go_region
        go_wp2
        go_roundw
        case rel =>
          have eV : ((sigS 17 19 10 Y : Nat) : Int) + (Z : Int) + ((sigS 7 18 3 X : Nat) : Int) + (U : Int) = ((sigS 17 19 10 Y + Z + sigS 7 18 3 X + U : Nat) : Int) := by omega
          have eW : (((sigS 17 19 10 Y : Nat) : Int) + (Z : Int) + ((sigS 7 18 3 X : Nat) : Int) + (U : Int)) % 4294967296 = (((sigS 17 19 10 Y + Z + sigS 7 18 3 X + U) % 4294967296 : Nat) : Int) := by rw [eV]; omega
          rw [eW]
          have hVq : Arr (wr.drewN (nq + 1)) (n0 + 1 + 1) 175 xs := hV
          exact ⟨t + 1, _, rfl, by omega, by simp [hxl], Arr.far (W := wr.drewN (nq + 1)) hS (Below.heap_setCell _ _ _ _ (by show n0 ≠ n0 + 1 + 1; omega)), Arr.far (W := wr.drewN (nq + 1)) hR (Below.heap_setCell _ _ _ _ (by show n0 + 1 ≠ n0 + 1 + 1; omega)), hVq.set t _,
            (pw_below_drewN hB (nq + 1)).setCell (by show n0 ≤ n0 + 1 + 1; omega) _, HNX⟩
        case measure => simp only [intOf]; omega
    · have hd : decide ((t : Int) < 64) = false := decide_eq_false (by omega)
      have ht64 : t = 64 := by omega
      have hxs : xs = sch (words l) 48 := by
        have := HX.out
        rw [ht64] at this
        rw [List.take_of_length_le (by omega), sV_ge _ _ hwl (by omega)] at this
        exact this
      clear ht64
      have q0 := hS.cell 0 (by simp)
      have q1 := hS.cell 1 (by simp)
      have q2 := hS.cell 2 (by simp)
      have q3 := hS.cell 3 (by simp)
      have q4 := hS.cell 4 (by simp)
      have q5 := hS.cell 5 (by simp)
      have q6 := hS.cell 6 (by simp)
      have q7 := hS.cell 7 (by simp)
      simp only [List.getD_cons_zero, List.getD_cons_succ] at q0 q1 q2 q3 q4 q5 q6 q7
      have hn3 : n0 + 1 + 1 < wr.heap.size := hV.lt
      clear hr hb HX
      go_wp2
      obtain ⟨n3, hn3e⟩ : ∃ n3, wr.heap.size = n3 := ⟨_, rfl⟩
      refine at_world (fun W0 => Arr W0 n0 161 [a, b, c, d, e, f, g, h] ∧ Arr W0 (n0 + 1) 161 (List.replicate 8 0) ∧ Arr W0 (n0 + 1 + 1) 175 xs ∧ Arr W0 n3 161 [a, b, c, d, e, f, g, h] ∧ Below n0 w W0) ⟨?_, ?_, ?_, ?_, ?_⟩ ?_
      · exact hS.far (Below.heap_alloc _ _ _ (by omega))
      · exact hR.far (Below.heap_alloc _ _ _ (by omega))
      · exact hV.far (Below.heap_alloc _ _ _ hn3)
      · unfold Arr
        rw [← hn3e, heap_alloc_new]
        rfl
      · exact hB.alloc (by omega) _
      rw [hn3e] at hn3
      clear hS hR hV hB q0 q1 q2 q3 q4 q5 q6 q7 hS0 hR0 hV0 hB0
      rintro W1 ⟨hS1, hR1, hV1, hA1, hB1⟩
      rw [hn3e]
      go_loopw [75] (fun v75 wr => ∃ (t : Nat) (s0 s1 s2 s3 s4 s5 s6 s7 : Nat), v75 = .int .i64 t ∧ t ≤ 64 ∧ Arr wr n0 161 [s0, s1, s2, s3, s4, s5, s6, s7] ∧ Arr wr (n0 + 1) 161 (List.replicate 8 0) ∧ Arr wr (n0 + 1 + 1) 175 xs ∧ Arr wr n3 161 [a, b, c, d, e, f, g, h] ∧ Below n0 w wr ∧
        Hid ([s0, s1, s2, s3, s4, s5, s6, s7] = stepsN [a, b, c, d, e, f, g, h] xs t ∧ ∀ x ∈ [s0, s1, s2, s3, s4, s5, s6, s7], x < 4294967296)) (fun v75 _ => 64 - (intOf v75).toNat)
      case atStart => exact ⟨0, a, b, c, d, e, f, g, h, rfl, by omega, hS1, hR1, hV1, hA1, hB1, Lib.hid ⟨rfl, HSs.out⟩⟩
      case round =>
        clear hS1 hR1 hV1 hA1 hB1
        obtain ⟨t, s0, s1, s2, s3, s4, s5, s6, s7, rfl, ht, hS, hR, hV, hA, hB, HX⟩ := hrel
        by_cases hlt : t < 64
        · have hd : decide ((t : Int) < 64) = true := decide_eq_true (by omega)
          have q0 := hS.cell 0 (by simp)
          have q1 := hS.cell 1 (by simp)
          have q2 := hS.cell 2 (by simp)
          have q3 := hS.cell 3 (by simp)
          have q4 := hS.cell 4 (by simp)
          have q5 := hS.cell 5 (by simp)
          have q6 := hS.cell 6 (by simp)
          have q7 := hS.cell 7 (by simp)
          simp only [List.getD_cons_zero, List.getD_cons_succ] at q0 q1 q2 q3 q4 q5 q6 q7
          have f0 := hS.frozen 0
          have f1 := hS.frozen 1
          have f2 := hS.frozen 2
          have f3 := hS.frozen 3
          have f4 := hS.frozen 4
          have f5 := hS.frozen 5
          have f6 := hS.frozen 6
          have f7 := hS.frozen 7
          have qw := hV.cell t (by omega)
          have qk := (hB.cell (p := ⟨3, t, none⟩) (by have := World.block_lt_of_cell? _ _ (HK.out t hlt); simpa [hn0] using this)).trans (HK.out t hlt)
          obtain ⟨Wt, hWt⟩ : ∃ Wt, Wt = xs.getD t 0 := ⟨_, rfl⟩
          obtain ⟨Kt, hKt⟩ : ∃ Kt, Kt = K64.getD t 0 := ⟨_, rfl⟩
          rw [← hWt] at qw
          rw [← hKt] at qk
          have hlts := HX.out.2
          have l0 : s0 < 4294967296 := hlts _ (by simp)
          have l4 : s4 < 4294967296 := hlts _ (by simp)
          have k6 := fun w => Rot 6 (by decide) (by decide) s4 l4 w (-6) rfl
          have k11 := fun w => Rot 11 (by decide) (by decide) s4 l4 w (-11) rfl
          have k25 := fun w => Rot 25 (by decide) (by decide) s4 l4 w (-25) rfl
          have k2 := fun w => Rot 2 (by decide) (by decide) s0 l0 w (-2) rfl
          have k13 := fun w => Rot 13 (by decide) (by decide) s0 l0 w (-13) rfl
          have k22 := fun w => Rot 22 (by decide) (by decide) s0 l0 w (-22) rfl
          have z6 := bits_sig 6 11 25 s4 (by decide) (by decide) (by decide) l4
          have z2 := bits_sig 2 13 22 s0 (by decide) (by decide) (by decide) l0
          have zc := bits_ch s4 s5 s6 l4 (hlts _ (by simp)) (hlts _ (by simp))
          have zm := bits_maj s0 s1 s2 l0 (hlts _ (by simp)) (hlts _ (by simp))
          have HW := Lib.hid hWt
          have HKt := Lib.hid hKt
          have HSq := Lib.hid hS
          have HR := Lib.hid hR
          have HV := Lib.hid hV
          have HA := Lib.hid hA
          have HBq := Lib.hid hB
          clear hWt hKt hlts l0 l4 hR hV hA hS hB
          go_wp2
          go_quiet (fail)
          go_wp2
          go_quiet (first
            | (go_at_call 152; with_reducible exact quietAt (k6 _))
            | (go_at_call 152; with_reducible exact quietAt (k11 _))
            | (go_at_call 152; with_reducible exact quietAt (k25 _)))
          go_wp2
          go_quiet (first
            | (go_at_call 152; with_reducible exact quietAt (k2 _))
            | (go_at_call 152; with_reducible exact quietAt (k13 _))
            | (go_at_call 152; with_reducible exact quietAt (k22 _)))
          go_wp2
          obtain ⟨e1, e2, e3, e4, e5⟩ := step_end (W := wr.drewN _) (Kt := Kt) (Wt := Wt) HSq.out HR.out HV.out HA.out (pw_below_drewN HBq.out _) hn3 _ rfl
          refine ⟨⟨t + 1, _, _, _, _, _, _, _, _, rfl, by omega, e1, e2, e3, e4, e5, Lib.hid ⟨?_, ?_⟩⟩, by simp only [intOf]; omega⟩
          · rw [stepsN, ← HX.out.1, K32_at t hlt, ← HKt.out, ← HW.out]
            rfl
          · exact (stepN_ok [s0, s1, s2, s3, s4, s5, s6, s7] (Kt / 4294967296) Wt (fun i => by
              rw [List.getD_eq_getElem?_getD]
              cases h : [s0, s1, s2, s3, s4, s5, s6, s7][i]? with
              | none => simp
              | some y => exact HX.out.2 y (List.mem_of_getElem? h))).2
        · have hd : decide ((t : Int) < 64) = false := decide_eq_false (by omega)
          have ht64 : t = 64 := by omega
          have HT := Lib.hid ht64
          obtain ⟨st, hst⟩ : ∃ st, st = [s0, s1, s2, s3, s4, s5, s6, s7] := ⟨_, rfl⟩
          obtain ⟨sa, hsa⟩ : ∃ sa, sa = [a, b, c, d, e, f, g, h] := ⟨_, rfl⟩
          have hstl : st.length = 8 := by rw [hst]; rfl
          have hsal : sa.length = 8 := by rw [hsa]; rfl
          have hX := HX.out.1
          rw [ht64, ← hst, ← hsa] at hX
          rw [← hst] at hS
          rw [← hsa] at hA
          have HXX := Lib.hid hX
          have HSA := Lib.hid hsa
          have HSTL := Lib.hid hstl
          have HSAL := Lib.hid hsal
          clear ht64 hst hsa hX HX hstl hsal hV
          go_wp2
          go_loopw [156] (fun v156 wr => ∃ (i : Nat), v156 = .int .i64 i ∧ i ≤ 8 ∧ Arr wr n0 161 (addUp st sa i) ∧ Arr wr (n0 + 1) 161 (List.replicate 8 0) ∧ Arr wr n3 161 sa ∧ Below n0 w wr) (fun v156 _ => 8 - (intOf v156).toNat)
          case atStart => exact ⟨0, rfl, by omega, hS, hR, hA, hB⟩
          case round =>
            clear hS hR hA hB
            obtain ⟨i, rfl, hi, hS, hR, hA, hB⟩ := hrel
            by_cases hlt : i < 8
            · have hd : decide ((i : Int) < 8) = true := decide_eq_true (by omega)
              have q0 := hS.cell i (by rw [addUp_length _ _ _ HSTL.out HSAL.out (by omega)]; omega)
              rw [addUp_at _ _ _ HSTL.out HSAL.out hlt] at q0
              have q1 := hA.cell i (by rw [HSAL.out]; omega)
              have f0 := hS.frozen i
              obtain ⟨U, hU⟩ : ∃ U, U = st.getD i 0 := ⟨_, rfl⟩
              obtain ⟨V, hV⟩ : ∃ V, V = sa.getD i 0 := ⟨_, rfl⟩
              rw [← hU] at q0
              rw [← hV] at q1
              have HU := Lib.hid hU
              have HV := Lib.hid hV
              clear hU hV
              go_wp2
              go_region
              go_wp2
              have eV : ((U : Int) + (V : Int)) % 4294967296 = (((U + V) % 4294967296 : Nat) : Int) := by omega
              rw [eV]
              have hS2 := hS.set i ((U + V) % 4294967296)
              have eA := addUp_set st sa i HSTL.out HSAL.out hlt
              rw [← HU.out, ← HV.out] at eA
              rw [eA] at hS2
              exact ⟨⟨i + 1, rfl, by omega, hS2, Arr.far hR (Below.heap_setCell _ _ _ _ (by show n0 + 1 ≠ n0; omega)), Arr.far hA (Below.heap_setCell _ _ _ _ (by show n3 ≠ n0; omega)), (hB.setCell (p := ⟨n0, i, none⟩) (Nat.le_refl _) _).drew⟩, by simp only [intOf]; omega⟩
            · have hd : decide ((i : Int) < 8) = false := decide_eq_false (by omega)
              have hi8 : i = 8 := by omega
              rw [hi8] at hS
              have hfin : addUp st sa 8 = blockN [a, b, c, d, e, f, g, h] (words l) := by
                rw [addUp_8 _ _ HSTL.out HSAL.out, HXX.out, HSA.out, hxs]
                rfl
              obtain ⟨r0, r1, r2, r3, r4, r5, r6, r7, hr8⟩ := list8 _ (addUp_length st sa 8 HSTL.out HSAL.out (by omega))
              rw [hr8] at hS hfin
              have HF := Lib.hid hfin
              have q0 := hS.cell 0 (by simp)
              have q1 := hS.cell 1 (by simp)
              have q2 := hS.cell 2 (by simp)
              have q3 := hS.cell 3 (by simp)
              have q4 := hS.cell 4 (by simp)
              have q5 := hS.cell 5 (by simp)
              have q6 := hS.cell 6 (by simp)
              have q7 := hS.cell 7 (by simp)
              simp only [List.getD_cons_zero, List.getD_cons_succ] at q0 q1 q2 q3 q4 q5 q6 q7
              have f0 := hR.frozen 0
              have f1 := hR.frozen 1
              have f2 := hR.frozen 2
              have f3 := hR.frozen 3
              have f4 := hR.frozen 4
              have f5 := hR.frozen 5
              have f6 := hR.frozen 6
              have f7 := hR.frozen 7
              have p0 := hR.cell 0 (by simp)
              have p1 := hR.cell 1 (by simp)
              have p2 := hR.cell 2 (by simp)
              have p3 := hR.cell 3 (by simp)
              have p4 := hR.cell 4 (by simp)
              have p5 := hR.cell 5 (by simp)
              have p6 := hR.cell 6 (by simp)
              have p7 := hR.cell 7 (by simp)
              have HRR := Lib.hid hR
              have HBB := Lib.hid hB
              clear hfin hr8 hi8 hS hA hR hB
              go_wp2
              refine ret_world (fun W0 => Arr W0 (n0 + 1) 161 [r0, r1, r2, r3, r4, r5, r6, r7] ∧ Below n0 w W0) ⟨?_, ?_⟩ ?_
              · exact (((((((HRR.out.set 0 r0).set 1 r1).set 2 r2).set 3 r3).set 4 r4).set 5 r5).set 6 r6).set 7 r7
              · exact (((((((HBB.out.setCell (p := ⟨n0 + 1, 0, none⟩) (Nat.le_succ _) _).setCell (p := ⟨n0 + 1, 1, none⟩) (Nat.le_succ _) _).setCell (p := ⟨n0 + 1, 2, none⟩) (Nat.le_succ _) _).setCell (p := ⟨n0 + 1, 3, none⟩) (Nat.le_succ _) _).setCell (p := ⟨n0 + 1, 4, none⟩) (Nat.le_succ _) _).setCell (p := ⟨n0 + 1, 5, none⟩) (Nat.le_succ _) _).setCell (p := ⟨n0 + 1, 6, none⟩) (Nat.le_succ _) _).setCell (p := ⟨n0 + 1, 7, none⟩) (Nat.le_succ _) _
              clear q0 q1 q2 q3 q4 q5 q6 q7 f0 f1 f2 f3 f4 f5 f6 f7 p0 p1 p2 p3 p4 p5 p6 p7
              rintro W9 ⟨hR9, hB9⟩
              have q0 := hR9.cell 0 (by simp)
              have q1 := hR9.cell 1 (by simp)
              have q2 := hR9.cell 2 (by simp)
              have q3 := hR9.cell 3 (by simp)
              have q4 := hR9.cell 4 (by simp)
              have q5 := hR9.cell 5 (by simp)
              have q6 := hR9.cell 6 (by simp)
              have q7 := hR9.cell 7 (by simp)
              simp only [List.getD_cons_zero, List.getD_cons_succ] at q0 q1 q2 q3 q4 q5 q6 q7
              refine bodyPost_ret (v := .agg #[.int .u32 r0, .int .u32 r1, .int .u32 r2, .int .u32 r3, .int .u32 r4, .int .u32 r5, .int .u32 r6, .int .u32 r7]) ?_ rfl ⟨?_, hn0 ▸ hB9⟩
              · simp [results, Tryd.results133, go_sem, q0, q1, q2, q3, q4, q5, q6, q7]
              · rw [← HF.out]
                rfl
/-- The table of the steps' words lies whole. -/
def KTab (w : World) : Prop := ∀ j, j < 64 → w.cell? ⟨3, j, none⟩ = some (.int .u64 (K64.getD j 0 : Nat))
theorem KTab.below {w w' : World} (h : KTab w) {B : Nat} (hb : Below B w w') (hB : 3 < B) : KTab w' := fun j hj => (hb.cell (p := ⟨3, j, none⟩) hB).trans (h j hj)
theorem KTab.lt {w : World} (h : KTab w) : 3 < w.heap.size := World.block_lt_of_cell? w ⟨3, 0, none⟩ (h 0 (by decide))
/-- A state of words as a value. -/
def arrV (s : List Nat) : Value := .agg ((s.map fun x : Nat => Value.int .u32 x).toArray)
theorem mix32_calls (s : List Nat) (hs : s.length = 8 ∧ ∀ x ∈ s, x < 4294967296) (A : Option Addr) (cap : Nat) (l : List Int) (hl : l.length = 64) (hc : 64 ≤ cap) (w : World) (hr : ReadsInt w .u8 A 64 l) (hb : ∀ x ∈ l, 0 ≤ x ∧ x < 256) (hK : KTab w) :
    Calls Tryd.prog 133 #[arrV s, .slice A 64 cap] w fun e w' => e = .returned (arrV (blockN s (words l))) ∧ Below w.heap.size w w' := by
  obtain ⟨r0, r1, r2, r3, r4, r5, r6, r7, rfl⟩ := list8 s hs.1
  exact mix32_8 r0 r1 r2 r3 r4 r5 r6 r7 A cap l hl hc w hr hb hs.2 hK
end Go.Proofs.YtoeibcdnhglobaaDoor.P
