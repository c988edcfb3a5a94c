/- proof.teller: one. -/
import Derived.Laws.Bits64b
import Derived.Test.YtoeibcdnhglobaaDoorGSrc
import Derived.Test.YtoeibcdnhglobaaDoorGSplit
import Derived.Test.YtoeibcdnhglobaaDoorE5
import Derived.Test.YtoeibcdnhglobaaDoorF4
namespace Go.Proofs.YtoeibcdnhglobaaDoor.P
set_option linter.unusedVariables false
set_option linter.unusedSimpArgs false
open Go.RowKit Go.Shelf Go.Proofs.YtoeibcdnhglobaaDoorW.PrintWords Go.Proofs.YtoeibcdnhglobaaDoorW.PrintLast Go.Proofs.YtoeibcdnhglobaaDoorW.PrintMore
open Go.Proofs.YtoeibcdnhglobaaDoor.Pure

theorem bits_and_i64_nat (a b : Nat) (ha : a < 1099511627776) (hb : b < 1099511627776) : bits .and .i64 (a : Int) (b : Int) = ((a &&& b : Nat) : Int) := by
  have hx : a &&& b < 2 ^ 40 := Nat.and_lt_two_pow _ (by omega)
  have h1 : (BitVec.ofInt 64 (a : Int)).toNat = a := by
    rw [BitVec.ofInt_natCast, BitVec.toNat_ofNat]; exact Nat.mod_eq_of_lt (by omega)
  have h2 : (BitVec.ofInt 64 (b : Int)).toNat = b := by
    rw [BitVec.ofInt_natCast, BitVec.toNat_ofNat]; exact Nat.mod_eq_of_lt (by omega)
  show IntKind.i64.wrap ((BitVec.ofInt 64 (a : Int) &&& BitVec.ofInt 64 (b : Int)).toNat : Int) = _
  rw [BitVec.toNat_and, h1, h2, IntKind.wrap_i64]
  omega
theorem and_pred : ∀ (n : Nat), 0 < n → (n &&& (n - 1) = 0) → ∃ k, n = 2 ^ k := by
  intro n
  induction n using Nat.strongRecOn with
  | _ n ih =>
    intro h0 h
    by_cases h1 : n = 1
    · exact ⟨0, h1⟩
    have hd : (n &&& (n - 1)) / 2 = n / 2 &&& (n - 1) / 2 := Nat.and_div_two
    rw [h] at hd
    by_cases he : n % 2 = 0
    · have e1 : (n - 1) / 2 = n / 2 - 1 := by omega
      rw [e1] at hd
      obtain ⟨k, hk⟩ := ih (n / 2) (by omega) (by omega) hd.symm
      exact ⟨k + 1, by rw [Nat.pow_succ, ← hk]; omega⟩
    · have e1 : (n - 1) / 2 = n / 2 := by omega
      rw [e1, Nat.and_self] at hd
      omega
theorem ctzFrom_pow : ∀ (f k : Nat), k < f → Lib.ctzFrom f (2 ^ k) = k
  | 0, k, h => absurd h (Nat.not_lt_zero _)
  | f + 1, 0, _ => by unfold Lib.ctzFrom; simp
  | f + 1, k + 1, h => by
    unfold Lib.ctzFrom
    have e : 2 ^ (k + 1) / 2 = 2 ^ k := by rw [Nat.pow_succ]; omega
    have e2 : ¬ 2 ^ (k + 1) % 2 = 1 := by rw [Nat.pow_succ]; omega
    rw [if_neg e2, e, ctzFrom_pow f k (by omega)]
    omega
theorem ctz_pow (k : Nat) (h : k < 64) : Lib.ctz 64 (2 ^ k) = k := by
  unfold Lib.ctz
  rw [if_neg (by have := Nat.two_pow_pos k; omega)]
  exact ctzFrom_pow 64 k h
/-- A teller at block b, its source over the hashes h, nothing odd yet. -/
def Tel (w : World) (b : Nat) (h : List ByteArray) : Prop := ∃ A K c, w.heap[b]? = some (.cells #[.iface 112 (.slice A K c), .bool false] 119 (0, 0)) ∧ SrcAt w A K h
theorem Tel.lt {w : World} {b : Nat} {h : List ByteArray} (t : Tel w b h) : b < w.heap.size := by
  obtain ⟨A, K, c, hb, _⟩ := t
  exact (Array.getElem?_eq_some_iff.1 hb).1
theorem Tel.below {w w' : World} {b : Nat} {h : List ByteArray} (t : Tel w b h) (hb : Below w.heap.size w w') : Tel w' b h := by
  have hl := t.lt
  obtain ⟨A, K, c, h1, h2⟩ := t
  exact ⟨A, K, c, (hb.block b hl).trans h1, h2.below hb⟩
theorem same_store {w : World} {b : Nat} {u : Value} (hb : w.heap[b]? = some (.cells #[u, .bool false] 119 (0, 0))) : Below w.heap.size w (w.setCell ⟨b, 1, none⟩ (.bool false)) := by
  refine ⟨rfl, rfl, rfl, by simp [World.setCell], fun k hk => ?_⟩
  by_cases h : k = b
  · subst h
    rw [hb]
    simpa using heap_setCell_same w k 1 _ _ (.bool false) hb
  · exact Below.heap_setCell _ _ _ _ h
theorem method_Node (A : Option Addr) (K c : Nat) (W : World) : (method 309 112 (.slice A K c) "Node").run Tryd.prog W = .ok (188, .slice A K c) W := by kernel_rfl
set_option maxRecDepth 100000 in
set_option maxHeartbeats 8000000 in
theorem one_leaf (b a n k q : Nat) (x y : Int) (h : List ByteArray) (w : World) (hx : x = a) (hy : y = a + n) (t : Tel w b h) (hT : TzTab w) (hk : k < 40) (hn : n = 2 ^ k) (ha : a = q * n) (hle : a + n ≤ h.length) (hh : h.length ≤ 1000000) :
    Calls Tryd.prog 101 #[.pointer (some ⟨b, 0, none⟩), .int .i64 x, .int .i64 y] w fun e w' => e = .returned (.string (Tree joinH ByteArray.empty ((h.drop a).take n))) ∧ Below w.heap.size w w' := by
  obtain ⟨A, K, c, hblk, hsrc⟩ := t
  have hp : 0 < n := by rw [hn]; exact Nat.two_pow_pos k
  have hi : q < (lvl joinH h k).length := by
    rw [lvl_length, ← hn]
    refine Nat.lt_of_lt_of_le (Nat.lt_succ_self q) ((Nat.le_div_iff_mul_le hp).2 ?_)
    rw [Nat.succ_mul, ← ha]; exact hle
  have hget := lvl_get joinH ByteArray.empty h k q hi
  rw [← hn, ← ha] at hget
  have kN := fun W (hW : Below w.heap.size w W) => Node_yes A K c h k q W (hsrc.below hW) hi
  rw [hget] at kN
  have kT := fun W (hW : Below w.heap.size w W) => tz_calls n (by omega) W (hT.below hW hT.lt)
  have hctz : Lib.ctz 64 n = k := by rw [hn]; exact ctz_pow k (by omega)
  rw [hctz] at kT
  have hand : (bits .and .i64 (n : Int) ((n : Int) - 1) == 0) = true := by
    rw [show (n : Int) - 1 = ((n - 1 : Nat) : Int) by omega, bits_and_i64_nat n (n - 1) (by omega) (by omega)]
    have : n &&& (n - 1) = 0 := by rw [hn, Nat.and_two_pow_sub_one_eq_mod, Nat.mod_self]
    rw [this]; rfl
  have hmod : ((a : Int) % (n : Int) == 0) = true := by
    rw [beq_iff_eq, ha, Int.natCast_mul, Int.mul_emod_left]
  have hdiv : (a : Int) / (n : Int) = (q : Int) := by
    rw [ha, Int.natCast_mul, Int.mul_ediv_cancel _ (by omega)]
  have hwrap : IntKind.u64.wrap (n : Int) = (n : Int) := by rw [IntKind.wrap_u64]; omega
  have hc0 : w.cell? ⟨b, 0, none⟩ = some (.iface 112 (.slice A K c)) := by simp [World.cell?, hblk]
  have hblt : b < w.heap.size := (Array.getElem?_eq_some_iff.1 hblk).1
  have hmeth := fun W => method_Node A K c W
  generalize Tree joinH ByteArray.empty (List.take n (List.drop a h)) = X at *
  subst hx
  subst hy
  have hqa : q ≤ a := by rw [ha]; exact Nat.le_mul_of_pos_right _ hp
  have g1 : (1 : Int) ≤ (n : Int) := by omega
  have g2 : (n : Int) ≤ 1000000 := by omega
  have g3 : (0 : Int) ≤ (a : Int) := by omega
  have g4 : (a : Int) ≤ 1000000 := by omega
  have hsub : (a : Int) + (n : Int) - (a : Int) = (n : Int) := by omega
  have hn0 : ¬ n = 0 := by omega
  have hwq : IntKind.i64.wrap (q : Int) = (q : Int) := by rw [IntKind.wrap_i64]; omega
  have HB := Lib.hid hblk
  clear hn ha hle hh hi hget hctz hp hsrc hT hk
  go_enter Tryd.func101, Tryd.ntmps101
  go_wp2
  refine wp_region_below rfl (by kernel_rfl) (by kernel_rfl) ?_
  repeat (first
    | (refine wpQuietIn_go (v := ?_) (a' := ?_) rfl (fun _ => trivial) (fun w' hC => qval ?_) rfl ?_ ?_; rotate_left; rotate_left; (have kc := bcell hC; have kb := kc b 0 hblt; go_simp; with_reducible rfl); (simp only [Act.put, List.setIfInBounds_toArray, List.set_cons_zero, List.set_cons_succ, i64_w, i32_w]; rfl))
    | (refine wpQuietIn_go (v := .int .i64 k) (a' := ?_) rfl (fun _ => trivial) (fun w' hC => bqcall 80 #[.int .u64 n] ?_ hC ((kT w' hC).mono fun e w'' hh => ⟨hh.1, hh.2 ▸ Below.refl _ _⟩)) rfl ?_ ?_; rotate_left; go_simp; (simp only [Act.put, List.setIfInBounds_toArray, List.set_cons_zero, List.set_cons_succ, i64_w, i32_w]; rfl)))
  refine wpQuietIn_go (v := .tuple #[.string X, .bool true]) (a' := ?_) rfl (fun _ => trivial) (fun w' hC => bqcall 188 #[.slice A K c, .int .i64 k, .int .i64 q] ?_ hC ((kN w' hC).mono fun e w'' hh => ⟨hh.1, hh.2 ▸ Below.refl _ _⟩)) rfl ?_ ?_
  rotate_left
  · go_simp
  · simp only [Act.put, List.setIfInBounds_toArray, List.set_cons_zero, List.set_cons_succ, i64_w, i32_w]
    rfl
  repeat (refine wpQuietIn_go (v := ?_) (a' := ?_) rfl (fun _ => trivial) (fun w' hC => qval ?_) rfl ?_ ?_; rotate_left; rotate_left; (have kc := bcell hC; have kb := kc b 0 hblt; go_simp; with_reducible rfl); (simp only [Act.put, List.setIfInBounds_toArray, List.set_cons_zero, List.set_cons_succ, i64_w, i32_w]; rfl))
  refine wpQuietIn_nil ?_
  intro w4 hb4
  have hblk4 : w4.heap[b]? = some (.cells #[.iface 112 (.slice A K c), .bool false] 119 (0, 0)) := (hb4.block b hblt).trans HB.out
  have k1 : w4.cell? ⟨b, 1, none⟩ = some (.bool false) := by simp [World.cell?, hblk4]
  have k2 : w4.frozen? ⟨b, 1, none⟩ = false := by simp [World.frozen?, hblk4]
  have hbs := same_store hblk4
  have HBS := Lib.hid hbs
  have HB4 := Lib.hid hb4
  clear hblk4 hbs hb4
  go_wp2
  go_ret
  exact ⟨rfl, HB4.out.trans (HBS.out.mono HB4.out.size)⟩
/-- The tree's one of n leaves from a on. -/
def seg (h : List ByteArray) (a n : Nat) : ByteArray := Tree joinH ByteArray.empty ((h.drop a).take n)
theorem seg_split (h : List ByteArray) (a n : Nat) (h2 : 2 ≤ n) (hle : a + n ≤ h.length) : seg h a n = joinH (seg h a (half n)) (seg h (a + half n) (n - half n)) := by
  have hl : ((h.drop a).take n).length = n := by rw [List.length_take, List.length_drop]; omega
  have hh := half_lt h2
  unfold seg
  rw [Tree_two joinH ByteArray.empty _ (by omega), hl, List.take_take, Nat.min_eq_left (by omega), List.drop_take, List.drop_drop]
theorem seg_sz (h : List ByteArray) (a n : Nat) (hs : ∀ s ∈ h, s.size ≤ 32) : (seg h a n).size ≤ 32 := Tree_sz _ fun s hm => hs s (List.mem_of_mem_drop (List.mem_of_mem_take hm))
set_option maxRecDepth 100000 in
set_option maxHeartbeats 8000000 in
theorem one_calls (b : Nat) (h : List ByteArray) (hh : h.length ≤ 1000000) (hs : ∀ s ∈ h, s.size ≤ 32) (d : Nat) : ∀ (n a : Nat) (x y : Int) (w : World), n ≤ d → 1 ≤ n → x = a → y = a + n → a + n ≤ h.length → Tel w b h → TzTab w → GlobH w →
    Calls Tryd.prog 101 #[.pointer (some ⟨b, 0, none⟩), .int .i64 x, .int .i64 y] w fun e w' => e = .returned (.string (seg h a n)) ∧ Below w.heap.size w w' := by
  induction d with
  | zero => intro n a x y w hd h1; omega
  | succ d ih =>
    intro n a x y w hd h1 hx hy hle ht hT hG
    by_cases hleaf : (n &&& (n - 1) = 0) ∧ a % n = 0
    · obtain ⟨k, hk⟩ := and_pred n (by omega) hleaf.1
      have hk40 : k < 40 := by
        refine Nat.lt_of_not_le fun hge => ?_
        have : 2 ^ 40 ≤ 2 ^ k := Nat.pow_le_pow_right (by decide) hge
        omega
      exact one_leaf b a n k (a / n) x y h w hx hy ht hT hk40 hk (Nat.div_mul_cancel (Nat.dvd_of_mod_eq_zero hleaf.2)).symm hle hh
    · have h2 : 2 ≤ n := by
        rcases Nat.lt_or_ge n 2 with c | c
        · exfalso
          obtain rfl : n = 1 := by omega
          exact hleaf ⟨rfl, Nat.mod_one a⟩
        · exact c
      have hm := half_lt h2
      have k1 := ih (half n) a a (a + half n) w (by omega) hm.1 rfl rfl (by omega) ht hT hG
      have k2 := fun W (hW : Below w.heap.size w W) => ih (n - half n) (a + half n) (a + half n) (a + n) W (by omega) (by omega) (by omega) (by omega) (by omega) (ht.below hW) (hT.below hW hT.lt) (hG.below hW)
      have k3 := fun W (hW : Below w.heap.size w W) => Jc_H (seg h a (half n)) (seg h (a + half n) (n - half n)) ⟨seg_sz h _ _ hs, seg_sz h _ _ hs⟩ W (hG.below hW)
      have kS := fun W => split_calls n h2 (by omega) W
      rw [seg_split h a n h2 hle]
      have hand : (bits .and .i64 (n : Int) ((n : Int) - 1) == 0) = decide (n &&& (n - 1) = 0) := by
        rw [show (n : Int) - 1 = ((n - 1 : Nat) : Int) by omega, bits_and_i64_nat n (n - 1) (by omega) (by omega)]
        by_cases c : n &&& (n - 1) = 0
        · rw [c]; rfl
        · rw [decide_eq_false c, beq_eq_false_iff_ne]; omega
      have hsub : (a : Int) + (n : Int) - (a : Int) = (n : Int) := by omega
      have g1 : (1 : Int) ≤ (n : Int) := by omega
      have g2 : (n : Int) ≤ 1000000 := by omega
      have g3 : (0 : Int) ≤ (a : Int) := by omega
      have g4 : (a : Int) ≤ 1000000 := by omega
      have g5 : (1 : Int) ≤ ((half n : Nat) : Int) := by omega
      have g6 : ((half n : Nat) : Int) ≤ 1000000 := by omega
      subst hx
      subst hy
      generalize joinH (seg h a (half n)) (seg h (a + half n) (n - half n)) = Z at *
      generalize seg h a (half n) = X at *
      generalize seg h (a + half n) (n - half n) = Y at *
      generalize half n = m at *
      by_cases hb : n &&& (n - 1) = 0
      · have hmod : ((a : Int) % (n : Int) == 0) = false := by
          rw [beq_eq_false_iff_ne]
          intro e
          exact hleaf ⟨hb, by omega⟩
        rw [decide_eq_true hb] at hand
        clear hleaf hb ih hm hd hle ht hT hG hs hh h1 h2
        go_enter Tryd.func101, Tryd.ntmps101
        go_wp2_with (first
          | (go_at_call 96; refine (kS _).mono ?_; rintro e w' ⟨rfl, rfl⟩)
          | (go_at_call 41; with_reducible refine (k3 _ hb2').mono ?_; rintro e w3 ⟨rfl, hb3⟩)
          | (go_at_call 101; first | (with_reducible refine k1.mono ?_; rintro e w1 ⟨rfl, hb1⟩; clear k1) | (with_reducible refine (k2 _ hb1).mono ?_; rintro e w2 ⟨rfl, hb2⟩; have hb2' := hb1.trans (hb2.mono hb1.size); clear k2)))
        go_ret
        exact ⟨rfl, hb2'.trans (hb3.mono hb2'.size)⟩
      · rw [decide_eq_false hb] at hand
        clear hleaf hb ih hm hd hle ht hT hG hs hh h1 h2
        go_enter Tryd.func101, Tryd.ntmps101
        go_wp2_with (first
          | (go_at_call 96; refine (kS _).mono ?_; rintro e w' ⟨rfl, rfl⟩)
          | (go_at_call 41; with_reducible refine (k3 _ hb2').mono ?_; rintro e w3 ⟨rfl, hb3⟩)
          | (go_at_call 101; first | (with_reducible refine k1.mono ?_; rintro e w1 ⟨rfl, hb1⟩; clear k1) | (with_reducible refine (k2 _ hb1).mono ?_; rintro e w2 ⟨rfl, hb2⟩; have hb2' := hb1.trans (hb2.mono hb1.size); clear k2)))
        go_ret
        exact ⟨rfl, hb2'.trans (hb3.mono hb2'.size)⟩
end Go.Proofs.YtoeibcdnhglobaaDoor.P
