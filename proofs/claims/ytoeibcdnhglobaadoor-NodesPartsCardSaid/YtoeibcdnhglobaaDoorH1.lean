/- Texts of the seat, joined: GOne, GPath, GInc. -/
import Derived.Laws.Bits64b
import Derived.Test.YtoeibcdnhglobaaDoorH0
import Derived.Test.YtoeibcdnhglobaaDoorE5
import Derived.Test.YtoeibcdnhglobaaDoorF4
/- proof.teller: one. -/
namespace Go.Proofs.YtoeibcdnhglobaaDoor.P
set_option linter.unusedVariables false
set_option linter.unusedSimpArgs false
open Go.RowKit Go.Shelf Go.Proofs.YtoeibcdnhglobaaDoorW.PrintWords Go.Proofs.YtoeibcdnhglobaaDoorW.PrintLast Go.Proofs.YtoeibcdnhglobaaDoorW.PrintMore
open Go.Proofs.YtoeibcdnhglobaaDoor.Pure

theorem bits_and_i64_nat (a b : Nat) (ha : a < 1099511627776) (hb : b < 1099511627776) : bits .and .i64 (a : Int) (b : Int) = ((a &&& b : Nat) : Int) := by
  have hx : a &&& b < 2 ^ 40 := Nat.and_lt_two_pow _ (by omega)
  have h1 : (BitVec.ofInt 64 (a : Int)).toNat = a := by
    rw [BitVec.ofInt_natCast, BitVec.toNat_ofNat]; exact Nat.mod_eq_of_lt (by omega)
  have h2 : (BitVec.ofInt 64 (b : Int)).toNat = b := by
    rw [BitVec.ofInt_natCast, BitVec.toNat_ofNat]; exact Nat.mod_eq_of_lt (by omega)
  show IntKind.i64.wrap ((BitVec.ofInt 64 (a : Int) &&& BitVec.ofInt 64 (b : Int)).toNat : Int) = _
  rw [BitVec.toNat_and, h1, h2, IntKind.wrap_i64]
  omega
theorem and_pred : ∀ (n : Nat), 0 < n → (n &&& (n - 1) = 0) → ∃ k, n = 2 ^ k := by
  intro n
  induction n using Nat.strongRecOn with
  | _ n ih =>
    intro h0 h
    by_cases h1 : n = 1
    · exact ⟨0, h1⟩
    have hd : (n &&& (n - 1)) / 2 = n / 2 &&& (n - 1) / 2 := Nat.and_div_two
    rw [h] at hd
    by_cases he : n % 2 = 0
    · have e1 : (n - 1) / 2 = n / 2 - 1 := by omega
      rw [e1] at hd
      obtain ⟨k, hk⟩ := ih (n / 2) (by omega) (by omega) hd.symm
      exact ⟨k + 1, by rw [Nat.pow_succ, ← hk]; omega⟩
    · have e1 : (n - 1) / 2 = n / 2 := by omega
      rw [e1, Nat.and_self] at hd
      omega
theorem ctzFrom_pow : ∀ (f k : Nat), k < f → Lib.ctzFrom f (2 ^ k) = k
  | 0, k, h => absurd h (Nat.not_lt_zero _)
  | f + 1, 0, _ => by unfold Lib.ctzFrom; simp
  | f + 1, k + 1, h => by
    unfold Lib.ctzFrom
    have e : 2 ^ (k + 1) / 2 = 2 ^ k := by rw [Nat.pow_succ]; omega
    have e2 : ¬ 2 ^ (k + 1) % 2 = 1 := by rw [Nat.pow_succ]; omega
    rw [if_neg e2, e, ctzFrom_pow f k (by omega)]
    omega
theorem ctz_pow (k : Nat) (h : k < 64) : Lib.ctz 64 (2 ^ k) = k := by
  unfold Lib.ctz
  rw [if_neg (by have := Nat.two_pow_pos k; omega)]
  exact ctzFrom_pow 64 k h
/-- A teller at block b, its source over the hashes h, nothing odd yet. -/
def Tel (w : World) (b : Nat) (h : List ByteArray) : Prop := ∃ A K c, w.heap[b]? = some (.cells #[.iface 112 (.slice A K c), .bool false] 119 (0, 0)) ∧ SrcAt w A K h
theorem Tel.lt {w : World} {b : Nat} {h : List ByteArray} (t : Tel w b h) : b < w.heap.size := by
  obtain ⟨A, K, c, hb, _⟩ := t
  exact (Array.getElem?_eq_some_iff.1 hb).1
theorem Tel.below {w w' : World} {b : Nat} {h : List ByteArray} (t : Tel w b h) (hb : Below w.heap.size w w') : Tel w' b h := by
  have hl := t.lt
  obtain ⟨A, K, c, h1, h2⟩ := t
  exact ⟨A, K, c, (hb.block b hl).trans h1, h2.below hb⟩
theorem same_store {w : World} {b : Nat} {u : Value} (hb : w.heap[b]? = some (.cells #[u, .bool false] 119 (0, 0))) : Below w.heap.size w (w.setCell ⟨b, 1, none⟩ (.bool false)) := by
  refine ⟨rfl, rfl, rfl, by simp [World.setCell], fun k hk => ?_⟩
  by_cases h : k = b
  · subst h
    rw [hb]
    simpa using heap_setCell_same w k 1 _ _ (.bool false) hb
  · exact Below.heap_setCell _ _ _ _ h
theorem method_Node (A : Option Addr) (K c : Nat) (W : World) : (method 309 112 (.slice A K c) "Node").run Tryd.prog W = .ok (188, .slice A K c) W := by kernel_rfl
set_option maxRecDepth 100000 in
set_option maxHeartbeats 8000000 in
theorem one_leaf (b a n k q : Nat) (x y : Int) (h : List ByteArray) (w : World) (hx : x = a) (hy : y = a + n) (t : Tel w b h) (hT : TzTab w) (hk : k < 40) (hn : n = 2 ^ k) (ha : a = q * n) (hle : a + n ≤ h.length) (hh : h.length ≤ 1000000) :
    Calls Tryd.prog 101 #[.pointer (some ⟨b, 0, none⟩), .int .i64 x, .int .i64 y] w fun e w' => e = .returned (.string (Tree joinH ByteArray.empty ((h.drop a).take n))) ∧ Below w.heap.size w w' := by
  obtain ⟨A, K, c, hblk, hsrc⟩ := t
  have hp : 0 < n := by rw [hn]; exact Nat.two_pow_pos k
  have hi : q < (lvl joinH h k).length := by
    rw [lvl_length, ← hn]
    refine Nat.lt_of_lt_of_le (Nat.lt_succ_self q) ((Nat.le_div_iff_mul_le hp).2 ?_)
    rw [Nat.succ_mul, ← ha]; exact hle
  have hget := lvl_get joinH ByteArray.empty h k q hi
  rw [← hn, ← ha] at hget
  have kN := fun W (hW : Below w.heap.size w W) => Node_yes A K c h k q W (hsrc.below hW) hi
  rw [hget] at kN
  have kT := fun W (hW : Below w.heap.size w W) => tz_calls n (by omega) W (hT.below hW hT.lt)
  have hctz : Lib.ctz 64 n = k := by rw [hn]; exact ctz_pow k (by omega)
  rw [hctz] at kT
  have hand : (bits .and .i64 (n : Int) ((n : Int) - 1) == 0) = true := by
    rw [show (n : Int) - 1 = ((n - 1 : Nat) : Int) by omega, bits_and_i64_nat n (n - 1) (by omega) (by omega)]
    have : n &&& (n - 1) = 0 := by rw [hn, Nat.and_two_pow_sub_one_eq_mod, Nat.mod_self]
    rw [this]; rfl
  have hmod : ((a : Int) % (n : Int) == 0) = true := by
    rw [beq_iff_eq, ha, Int.natCast_mul, Int.mul_emod_left]
  have hdiv : (a : Int) / (n : Int) = (q : Int) := by
    rw [ha, Int.natCast_mul, Int.mul_ediv_cancel _ (by omega)]
  have hwrap : IntKind.u64.wrap (n : Int) = (n : Int) := by rw [IntKind.wrap_u64]; omega
  have hc0 : w.cell? ⟨b, 0, none⟩ = some (.iface 112 (.slice A K c)) := by simp [World.cell?, hblk]
  have hblt : b < w.heap.size := (Array.getElem?_eq_some_iff.1 hblk).1
  have hmeth := fun W => method_Node A K c W
  generalize Tree joinH ByteArray.empty (List.take n (List.drop a h)) = X at *
  subst hx
  subst hy
  have hqa : q ≤ a := by rw [ha]; exact Nat.le_mul_of_pos_right _ hp
  have g1 : (1 : Int) ≤ (n : Int) := by omega
  have g2 : (n : Int) ≤ 1000000 := by omega
  have g3 : (0 : Int) ≤ (a : Int) := by omega
  have g4 : (a : Int) ≤ 1000000 := by omega
  have hsub : (a : Int) + (n : Int) - (a : Int) = (n : Int) := by omega
  have hn0 : ¬ n = 0 := by omega
  have hwq : IntKind.i64.wrap (q : Int) = (q : Int) := by rw [IntKind.wrap_i64]; omega
  have HB := Lib.hid hblk
  clear hn ha hle hh hi hget hctz hp hsrc hT hk
  go_enter Tryd.func101, Tryd.ntmps101
  go_wp2
  refine wp_region_below rfl (by kernel_rfl) (by kernel_rfl) ?_
  repeat (first
    | (refine wpQuietIn_go (v := ?_) (a' := ?_) rfl (fun _ => trivial) (fun w' hC => qval ?_) rfl ?_ ?_; rotate_left; rotate_left; (have kc := bcell hC; have kb := kc b 0 hblt; go_simp; with_reducible rfl); (simp only [Act.put, List.setIfInBounds_toArray, List.set_cons_zero, List.set_cons_succ, i64_w, i32_w]; rfl))
    | (refine wpQuietIn_go (v := .int .i64 k) (a' := ?_) rfl (fun _ => trivial) (fun w' hC => bqcall 80 #[.int .u64 n] ?_ hC ((kT w' hC).mono fun e w'' hh => ⟨hh.1, hh.2 ▸ Below.refl _ _⟩)) rfl ?_ ?_; rotate_left; go_simp; (simp only [Act.put, List.setIfInBounds_toArray, List.set_cons_zero, List.set_cons_succ, i64_w, i32_w]; rfl)))
  refine wpQuietIn_go (v := .tuple #[.string X, .bool true]) (a' := ?_) rfl (fun _ => trivial) (fun w' hC => bqcall 188 #[.slice A K c, .int .i64 k, .int .i64 q] ?_ hC ((kN w' hC).mono fun e w'' hh => ⟨hh.1, hh.2 ▸ Below.refl _ _⟩)) rfl ?_ ?_
  rotate_left
  · go_simp
  · simp only [Act.put, List.setIfInBounds_toArray, List.set_cons_zero, List.set_cons_succ, i64_w, i32_w]
    rfl
  repeat (refine wpQuietIn_go (v := ?_) (a' := ?_) rfl (fun _ => trivial) (fun w' hC => qval ?_) rfl ?_ ?_; rotate_left; rotate_left; (have kc := bcell hC; have kb := kc b 0 hblt; go_simp; with_reducible rfl); (simp only [Act.put, List.setIfInBounds_toArray, List.set_cons_zero, List.set_cons_succ, i64_w, i32_w]; rfl))
  refine wpQuietIn_nil ?_
  intro w4 hb4
  have hblk4 : w4.heap[b]? = some (.cells #[.iface 112 (.slice A K c), .bool false] 119 (0, 0)) := (hb4.block b hblt).trans HB.out
  have k1 : w4.cell? ⟨b, 1, none⟩ = some (.bool false) := by simp [World.cell?, hblk4]
  have k2 : w4.frozen? ⟨b, 1, none⟩ = false := by simp [World.frozen?, hblk4]
  have hbs := same_store hblk4
  have HBS := Lib.hid hbs
  have HB4 := Lib.hid hb4
  clear hblk4 hbs hb4
  go_wp2
  go_ret
  exact ⟨rfl, HB4.out.trans (HBS.out.mono HB4.out.size)⟩
/-- The tree's one of n leaves from a on. -/
def seg (h : List ByteArray) (a n : Nat) : ByteArray := Tree joinH ByteArray.empty ((h.drop a).take n)
theorem seg_split (h : List ByteArray) (a n : Nat) (h2 : 2 ≤ n) (hle : a + n ≤ h.length) : seg h a n = joinH (seg h a (half n)) (seg h (a + half n) (n - half n)) := by
  have hl : ((h.drop a).take n).length = n := by rw [List.length_take, List.length_drop]; omega
  have hh := half_lt h2
  unfold seg
  rw [Tree_two joinH ByteArray.empty _ (by omega), hl, List.take_take, Nat.min_eq_left (by omega), List.drop_take, List.drop_drop]
theorem seg_sz (h : List ByteArray) (a n : Nat) (hs : ∀ s ∈ h, s.size ≤ 32) : (seg h a n).size ≤ 32 := Tree_sz _ fun s hm => hs s (List.mem_of_mem_drop (List.mem_of_mem_take hm))
set_option maxRecDepth 100000 in
set_option maxHeartbeats 8000000 in
theorem one_calls (b : Nat) (h : List ByteArray) (hh : h.length ≤ 1000000) (hs : ∀ s ∈ h, s.size ≤ 32) (d : Nat) : ∀ (n a : Nat) (x y : Int) (w : World), n ≤ d → 1 ≤ n → x = a → y = a + n → a + n ≤ h.length → Tel w b h → TzTab w → GlobH w →
    Calls Tryd.prog 101 #[.pointer (some ⟨b, 0, none⟩), .int .i64 x, .int .i64 y] w fun e w' => e = .returned (.string (seg h a n)) ∧ Below w.heap.size w w' := by
  induction d with
  | zero => intro n a x y w hd h1; omega
  | succ d ih =>
    intro n a x y w hd h1 hx hy hle ht hT hG
    by_cases hleaf : (n &&& (n - 1) = 0) ∧ a % n = 0
    · obtain ⟨k, hk⟩ := and_pred n (by omega) hleaf.1
      have hk40 : k < 40 := by
        refine Nat.lt_of_not_le fun hge => ?_
        have : 2 ^ 40 ≤ 2 ^ k := Nat.pow_le_pow_right (by decide) hge
        omega
      exact one_leaf b a n k (a / n) x y h w hx hy ht hT hk40 hk (Nat.div_mul_cancel (Nat.dvd_of_mod_eq_zero hleaf.2)).symm hle hh
    · have h2 : 2 ≤ n := by
        rcases Nat.lt_or_ge n 2 with c | c
        · exfalso
          obtain rfl : n = 1 := by omega
          exact hleaf ⟨rfl, Nat.mod_one a⟩
        · exact c
      have hm := half_lt h2
      have k1 := ih (half n) a a (a + half n) w (by omega) hm.1 rfl rfl (by omega) ht hT hG
      have k2 := fun W (hW : Below w.heap.size w W) => ih (n - half n) (a + half n) (a + half n) (a + n) W (by omega) (by omega) (by omega) (by omega) (by omega) (ht.below hW) (hT.below hW hT.lt) (hG.below hW)
      have k3 := fun W (hW : Below w.heap.size w W) => Jc_H (seg h a (half n)) (seg h (a + half n) (n - half n)) ⟨seg_sz h _ _ hs, seg_sz h _ _ hs⟩ W (hG.below hW)
      have kS := fun W => split_calls n h2 (by omega) W
      rw [seg_split h a n h2 hle]
      have hand : (bits .and .i64 (n : Int) ((n : Int) - 1) == 0) = decide (n &&& (n - 1) = 0) := by
        rw [show (n : Int) - 1 = ((n - 1 : Nat) : Int) by omega, bits_and_i64_nat n (n - 1) (by omega) (by omega)]
        by_cases c : n &&& (n - 1) = 0
        · rw [c]; rfl
        · rw [decide_eq_false c, beq_eq_false_iff_ne]; omega
      have hsub : (a : Int) + (n : Int) - (a : Int) = (n : Int) := by omega
      have g1 : (1 : Int) ≤ (n : Int) := by omega
      have g2 : (n : Int) ≤ 1000000 := by omega
      have g3 : (0 : Int) ≤ (a : Int) := by omega
      have g4 : (a : Int) ≤ 1000000 := by omega
      have g5 : (1 : Int) ≤ ((half n : Nat) : Int) := by omega
      have g6 : ((half n : Nat) : Int) ≤ 1000000 := by omega
      subst hx
      subst hy
      generalize joinH (seg h a (half n)) (seg h (a + half n) (n - half n)) = Z at *
      generalize seg h a (half n) = X at *
      generalize seg h (a + half n) (n - half n) = Y at *
      generalize half n = m at *
      by_cases hb : n &&& (n - 1) = 0
      · have hmod : ((a : Int) % (n : Int) == 0) = false := by
          rw [beq_eq_false_iff_ne]
          intro e
          exact hleaf ⟨hb, by omega⟩
        rw [decide_eq_true hb] at hand
        clear hleaf hb ih hm hd hle ht hT hG hs hh h1 h2
        go_enter Tryd.func101, Tryd.ntmps101
        go_wp2_with (first
          | (go_at_call 96; refine (kS _).mono ?_; rintro e w' ⟨rfl, rfl⟩)
          | (go_at_call 41; with_reducible refine (k3 _ hb2').mono ?_; rintro e w3 ⟨rfl, hb3⟩)
          | (go_at_call 101; first | (with_reducible refine k1.mono ?_; rintro e w1 ⟨rfl, hb1⟩; clear k1) | (with_reducible refine (k2 _ hb1).mono ?_; rintro e w2 ⟨rfl, hb2⟩; have hb2' := hb1.trans (hb2.mono hb1.size); clear k2)))
        go_ret
        exact ⟨rfl, hb2'.trans (hb3.mono hb2'.size)⟩
      · rw [decide_eq_false hb] at hand
        clear hleaf hb ih hm hd hle ht hT hG hs hh h1 h2
        go_enter Tryd.func101, Tryd.ntmps101
        go_wp2_with (first
          | (go_at_call 96; refine (kS _).mono ?_; rintro e w' ⟨rfl, rfl⟩)
          | (go_at_call 41; with_reducible refine (k3 _ hb2').mono ?_; rintro e w3 ⟨rfl, hb3⟩)
          | (go_at_call 101; first | (with_reducible refine k1.mono ?_; rintro e w1 ⟨rfl, hb1⟩; clear k1) | (with_reducible refine (k2 _ hb1).mono ?_; rintro e w2 ⟨rfl, hb2⟩; have hb2' := hb1.trans (hb2.mono hb1.size); clear k2)))
        go_ret
        exact ⟨rfl, hb2'.trans (hb3.mono hb2'.size)⟩
end Go.Proofs.YtoeibcdnhglobaaDoor.P

/- proof.teller: path, proof: the walks. -/
namespace Go.Proofs.YtoeibcdnhglobaaDoor.P
set_option linter.unusedVariables false
set_option linter.unusedSimpArgs false
open Go.RowKit Go.Shelf Go.Proofs.YtoeibcdnhglobaaDoorW.PrintWords Go.Proofs.YtoeibcdnhglobaaDoorW.PrintLast Go.Proofs.YtoeibcdnhglobaaDoorW.PrintMore
open Go.Proofs.YtoeibcdnhglobaaDoor.Pure

/-- The path of the leaf a + m among the n leaves from a on. -/
def pathR (h : List ByteArray) : Nat → Nat → Nat → Nat → List ByteArray
  | 0, _, _, _ => []
  | f + 1, m, a, n => if n ≤ 1 then [] else if m < half n then pathR h f m a (half n) ++ [seg h (a + half n) (n - half n)] else pathR h f (m - half n) (a + half n) (n - half n) ++ [seg h a (half n)]
/-- The proof that the first m of the n leaves from a on are a tree's. -/
def proofR (h : List ByteArray) : Nat → Nat → Nat → Nat → Bool → List ByteArray
  | 0, _, _, _, _ => []
  | f + 1, m, a, n, known => if m = n then (if known then [] else [seg h a n]) else if m ≤ half n then proofR h f m a (half n) known ++ [seg h (a + half n) (n - half n)] else proofR h f (m - half n) (a + half n) (n - half n) false ++ [seg h a (half n)]
theorem pathR_len (h : List ByteArray) : ∀ (f m a n : Nat), (pathR h f m a n).length ≤ f
  | 0, _, _, _ => Nat.le_refl _
  | f + 1, m, a, n => by
    unfold pathR
    split
    · simp
    · split
      · have := pathR_len h f m a (half n); rw [List.length_append, List.length_singleton]; omega
      · have := pathR_len h f (m - half n) (a + half n) (n - half n); rw [List.length_append, List.length_singleton]; omega
theorem proofR_len (h : List ByteArray) : ∀ (f m a n : Nat) (kn : Bool), (proofR h f m a n kn).length ≤ f
  | 0, _, _, _, _ => Nat.le_refl _
  | f + 1, m, a, n, kn => by
    unfold proofR
    split
    · cases kn <;> simp
    · split
      · have := proofR_len h f m a (half n) kn; rw [List.length_append, List.length_singleton]; omega
      · have := proofR_len h f (m - half n) (a + half n) (n - half n) false; rw [List.length_append, List.length_singleton]; omega
theorem own_slc2 {w : World} {base n : Nat} {e : TypeId} {size : Nat} {v : Value} {xs : List Value} (h : w.ownsRow base e size v n xs) : ∃ A c, v = .slice A n c ∧ n ≤ c := by
  rcases h.2 with ⟨rfl, h0⟩ | ⟨g, cap, cur, rfl, _, hg, hcap, _⟩
  · exact ⟨none, 0, by rw [h0], by omega⟩
  · exact ⟨_, _, rfl, hcap⟩
set_option maxRecDepth 100000 in
set_option maxHeartbeats 8000000 in
theorem path_calls (b : Nat) (h : List ByteArray) (hh : h.length ≤ 1000000) (hs : ∀ s ∈ h, s.size ≤ 32) (d : Nat) : ∀ (f n a m : Nat) (z x y : Int) (w : World), n ≤ d → n ≤ f → f ≤ 1000000 → 1 ≤ n → m < n → z = a + m → x = a → y = a + n → a + n ≤ h.length → Tel w b h → TzTab w → GlobH w →
    Calls Tryd.prog 102 #[.pointer (some ⟨b, 0, none⟩), .int .i64 z, .int .i64 x, .int .i64 y] w fun e w' => ∃ v, e = .returned v ∧ w'.ownsRow w.heap.size 9 1 v (pathR h f m a n).length (encs Value.string (pathR h f m a n)) ∧ Below w.heap.size w w' := by
  induction d with
  | zero => intro f n a m z x y w hd hf hfm h1; omega
  | succ d ih =>
    intro f n a m z x y w hd hf hfm h1 hmn hz hx hy hle ht hT hG
    obtain ⟨f, rfl⟩ : ∃ g, f = g + 1 := ⟨f - 1, by omega⟩
    subst hx
    subst hy
    subst hz
    have hsub : (a : Int) + (n : Int) - (a : Int) = (n : Int) := by omega
    have g1 : (1 : Int) ≤ (n : Int) := by omega
    have g2 : (n : Int) ≤ 1000000 := by omega
    have g3 : (0 : Int) ≤ (a : Int) := by omega
    have g4 : (a : Int) ≤ 1000000 := by omega
    by_cases hn1 : n = 1
    · have hp : pathR h (f + 1) m a n = [] := by unfold pathR; rw [if_pos (by omega)]
      rw [hp]
      have e1 : ((n : Int) == 1) = true := by rw [beq_iff_eq]; omega
      have ho := own_nil w w.heap.size 9 1
      clear hn1 hp ih hmn hle ht hT hG hs hh
      go_enter Tryd.func102, Tryd.ntmps102
      go_wp2
      go_ret
      exact ⟨_, rfl, by simpa [encs] using ho, Below.refl _ _⟩
    · have e1 : ((n : Int) == 1) = false := by rw [beq_eq_false_iff_ne]; omega
      have h2 : 2 ≤ n := by omega
      have hm := half_lt h2
      have kS := fun W => split_calls n h2 (by omega) W
      have g5 : (1 : Int) ≤ ((half n : Nat) : Int) := by omega
      have g6 : ((half n : Nat) : Int) ≤ 1000000 := by omega
      by_cases hc : m < half n
      · have hp : pathR h (f + 1) m a n = pathR h f m a (half n) ++ [seg h (a + half n) (n - half n)] := by
          show (if n ≤ 1 then [] else _) = _
          rw [if_neg (by omega), if_pos hc]
        have hl := pathR_len h f m a (half n)
        have k1 := ih f (half n) a m ((a : Int) + (m : Int)) a ((a : Int) + ((half n : Nat) : Int)) w (by omega) (by omega) (by omega) hm.1 hc rfl rfl rfl (by omega) ht hT hG
        have k2 := fun W (hW : Below w.heap.size w W) => one_calls b h hh hs n (n - half n) (a + half n) ((a : Int) + ((half n : Nat) : Int)) ((a : Int) + (n : Int)) W (by omega) (by omega) (by omega) (by omega) (by omega) (ht.below hW) (hT.below hW hT.lt) (hG.below hW)
        have d1 : decide ((a : Int) + (m : Int) < (a : Int) + ((half n : Nat) : Int)) = true := decide_eq_true (by omega)
        have g7 : (m : Int) < ((half n : Nat) : Int) := by omega
        rw [hp]
        generalize pathR h f m a (half n) = P at *
        generalize seg h (a + half n) (n - half n) = X at *
        generalize half n = mh at *
        have hl16 : (P.length + 1) * 16 ≤ 140737488355328 := by omega
        clear hp ih hmn hle ht hT hG hs hh hn1 hd h2 hl hf hfm
        go_enter Tryd.func102, Tryd.ntmps102
        go_wp2_with (first
          | (go_at_call 96; refine (kS _).mono ?_; rintro e w' ⟨rfl, hw'⟩; rw [hw']; clear hw' w')
          | (go_at_call 102; with_reducible refine k1.mono ?_; rintro e w1 ⟨v1, rfl, ho1, hb1⟩; obtain ⟨A1, c1, rfl, _⟩ := own_slc2 ho1; clear k1)
          | (go_at_call 101; with_reducible refine (k2 _ hb1).mono ?_; rintro e w2 ⟨rfl, hb2⟩; have hb2' := hb1.trans (hb2.mono hb1.size); have ho2 := pw_own_below ho1 hb2; clear k2)
          | (at_builtin; go_loud (refine print_append_of (w0 := w) Value.string w.heap.size rfl _ _ 22 9 (.string ⟨#[]⟩) 16 rfl Tryd.underlying22 inf9 rfl (by decide) (.slice A1 P.length c1) P X rfl rfl rfl ho2 hb2' hb2'.size hl16 ?_; intro v4 w4 hown4 hB4 _ _)))
        go_ret
        exact ⟨_, rfl, hown4, hB4⟩
      · have hp : pathR h (f + 1) m a n = pathR h f (m - half n) (a + half n) (n - half n) ++ [seg h a (half n)] := by
          show (if n ≤ 1 then [] else _) = _
          rw [if_neg (by omega), if_neg hc]
        have hl := pathR_len h f (m - half n) (a + half n) (n - half n)
        have k1 := ih f (n - half n) (a + half n) (m - half n) ((a : Int) + (m : Int)) ((a : Int) + ((half n : Nat) : Int)) ((a : Int) + (n : Int)) w (by omega) (by omega) (by omega) (by omega) (by omega) (by omega) (by omega) (by omega) (by omega) ht hT hG
        have k2 := fun W (hW : Below w.heap.size w W) => one_calls b h hh hs n (half n) a (a : Int) ((a : Int) + ((half n : Nat) : Int)) W (by omega) (by omega) (by omega) (by omega) (by omega) (ht.below hW) (hT.below hW hT.lt) (hG.below hW)
        have d1 : decide ((a : Int) + (m : Int) < (a : Int) + ((half n : Nat) : Int)) = false := decide_eq_false (by omega)
        have g7 : ((half n : Nat) : Int) ≤ (m : Int) := by omega
        rw [hp]
        generalize pathR h f (m - half n) (a + half n) (n - half n) = P at *
        generalize seg h a (half n) = X at *
        generalize half n = mh at *
        have hl16 : (P.length + 1) * 16 ≤ 140737488355328 := by omega
        clear hp ih hmn hle ht hT hG hs hh hn1 hd h2 hl hf hfm hc
        go_enter Tryd.func102, Tryd.ntmps102
        go_wp2_with (first
          | (go_at_call 96; refine (kS _).mono ?_; rintro e w' ⟨rfl, hw'⟩; rw [hw']; clear hw' w')
          | (go_at_call 102; with_reducible refine k1.mono ?_; rintro e w1 ⟨v1, rfl, ho1, hb1⟩; obtain ⟨A1, c1, rfl, _⟩ := own_slc2 ho1; clear k1)
          | (go_at_call 101; with_reducible refine (k2 _ hb1).mono ?_; rintro e w2 ⟨rfl, hb2⟩; have hb2' := hb1.trans (hb2.mono hb1.size); have ho2 := pw_own_below ho1 hb2; clear k2)
          | (at_builtin; go_loud (refine print_append_of (w0 := w) Value.string w.heap.size rfl _ _ 22 9 (.string ⟨#[]⟩) 16 rfl Tryd.underlying22 inf9 rfl (by decide) (.slice A1 P.length c1) P X rfl rfl rfl ho2 hb2' hb2'.size hl16 ?_; intro v4 w4 hown4 hB4 _ _)))
        go_ret
        exact ⟨_, rfl, hown4, hB4⟩
set_option maxRecDepth 100000 in
set_option maxHeartbeats 8000000 in
theorem proof_calls (b : Nat) (h : List ByteArray) (hh : h.length ≤ 1000000) (hs : ∀ s ∈ h, s.size ≤ 32) (d : Nat) : ∀ (f n a m : Nat) (kn : Bool) (z x y : Int) (w : World), n ≤ d → n ≤ f → f ≤ 1000000 → 1 ≤ m → m ≤ n → z = m → x = a → y = a + n → a + n ≤ h.length → Tel w b h → TzTab w → GlobH w →
    Calls Tryd.prog 93 #[.pointer (some ⟨b, 0, none⟩), .int .i64 z, .int .i64 x, .int .i64 y, .bool kn] w fun e w' => ∃ v, e = .returned v ∧ w'.ownsRow w.heap.size 9 1 v (proofR h f m a n kn).length (encs Value.string (proofR h f m a n kn)) ∧ Below w.heap.size w w' := by
  induction d with
  | zero => intro f n a m kn z x y w hd hf hfm h1 hmn; omega
  | succ d ih =>
    intro f n a m kn z x y w hd hf hfm h1 hmn hz hx hy hle ht hT hG
    obtain ⟨f, rfl⟩ : ∃ g, f = g + 1 := ⟨f - 1, by omega⟩
    subst hx
    subst hy
    subst hz
    have hsub : (a : Int) + (n : Int) - (a : Int) = (n : Int) := by omega
    have g1 : (1 : Int) ≤ (n : Int) := by omega
    have g2 : (n : Int) ≤ 1000000 := by omega
    have g3 : (0 : Int) ≤ (a : Int) := by omega
    have g4 : (a : Int) ≤ 1000000 := by omega
    by_cases hn1 : m = n
    · have e1 : ((m : Int) == (n : Int)) = true := by rw [beq_iff_eq]; omega
      cases kn with
      | true =>
        have hp : proofR h (f + 1) m a n true = [] := by unfold proofR; rw [if_pos hn1]; rfl
        rw [hp]
        have ho := own_nil w w.heap.size 9 1
        clear hn1 hp ih hmn hle ht hT hG hs hh h1 hd hf
        go_enter Tryd.func93, Tryd.ntmps93
        go_wp2
        go_ret
        exact ⟨_, rfl, by simpa [encs] using ho, Below.refl _ _⟩
      | false =>
        have hp : proofR h (f + 1) m a n false = [seg h a n] := by unfold proofR; rw [if_pos hn1]; rfl
        have k2 := one_calls b h hh hs n n a (a : Int) ((a : Int) + (n : Int)) w (by omega) (by omega) (by omega) (by omega) (by omega) ht hT hG
        rw [hp]
        generalize seg h a n = X at *
        have ho := fun (W : World) (hW : Below w.heap.size w W) => own_lit_of (enc := Value.string) W w.heap.size 9 [X] hW.size (by simp)
        have HO := Lib.hid ho
        clear hn1 hp ih hmn hle ht hT hG hs hh h1 hd hf ho
        go_enter Tryd.func93, Tryd.ntmps93
        go_wp2_with (go_at_call 101; with_reducible refine k2.mono ?_; rintro e w2 ⟨rfl, hb2⟩)
        go_ret
        exact ⟨_, rfl, by simpa [encs] using HO.out w2 hb2, hb2.alloc hb2.size _⟩
    · have e1 : ((m : Int) == (n : Int)) = false := by rw [beq_eq_false_iff_ne]; omega
      have h2 : 2 ≤ n := by omega
      have hm := half_lt h2
      have kS := fun W => split_calls n h2 (by omega) W
      have g5 : (1 : Int) ≤ ((half n : Nat) : Int) := by omega
      have g6 : ((half n : Nat) : Int) ≤ 1000000 := by omega
      have g8 : (0 : Int) ≤ (m : Int) := by omega
      have g9 : (m : Int) ≤ 1000000 := by omega
      by_cases hc : m ≤ half n
      · have hp : proofR h (f + 1) m a n kn = proofR h f m a (half n) kn ++ [seg h (a + half n) (n - half n)] := by
          show (if m = n then _ else _) = _
          rw [if_neg hn1, if_pos hc]
        have hl := proofR_len h f m a (half n) kn
        have k1 := ih f (half n) a m kn (m : Int) a ((a : Int) + ((half n : Nat) : Int)) w (by omega) (by omega) (by omega) h1 hc rfl rfl rfl (by omega) ht hT hG
        have k2 := fun W (hW : Below w.heap.size w W) => one_calls b h hh hs n (n - half n) (a + half n) ((a : Int) + ((half n : Nat) : Int)) ((a : Int) + (n : Int)) W (by omega) (by omega) (by omega) (by omega) (by omega) (ht.below hW) (hT.below hW hT.lt) (hG.below hW)
        have d1 : decide ((m : Int) ≤ ((half n : Nat) : Int)) = true := decide_eq_true (by omega)
        have d2 : decide (m ≤ half n) = true := decide_eq_true hc
        rw [hp]
        generalize proofR h f m a (half n) kn = P at *
        generalize seg h (a + half n) (n - half n) = X at *
        generalize half n = mh at *
        have hl16 : (P.length + 1) * 16 ≤ 140737488355328 := by omega
        clear hp ih hmn hle ht hT hG hs hh hn1 hd h2 hl hf hfm
        go_enter Tryd.func93, Tryd.ntmps93
        go_wp2_with (first
          | (go_at_call 96; refine (kS _).mono ?_; rintro e w' ⟨rfl, hw'⟩; rw [hw']; clear hw' w')
          | (go_at_call 93; with_reducible refine k1.mono ?_; rintro e w1 ⟨v1, rfl, ho1, hb1⟩; obtain ⟨A1, c1, rfl, _⟩ := own_slc2 ho1; clear k1)
          | (go_at_call 101; with_reducible refine (k2 _ hb1).mono ?_; rintro e w2 ⟨rfl, hb2⟩; have hb2' := hb1.trans (hb2.mono hb1.size); have ho2 := pw_own_below ho1 hb2; clear k2)
          | (at_builtin; go_loud (refine print_append_of (w0 := w) Value.string w.heap.size rfl _ _ 22 9 (.string ⟨#[]⟩) 16 rfl Tryd.underlying22 inf9 rfl (by decide) (.slice A1 P.length c1) P X rfl rfl rfl ho2 hb2' hb2'.size hl16 ?_; intro v4 w4 hown4 hB4 _ _)))
        go_ret
        exact ⟨_, rfl, hown4, hB4⟩
      · have hp : proofR h (f + 1) m a n kn = proofR h f (m - half n) (a + half n) (n - half n) false ++ [seg h a (half n)] := by
          show (if m = n then _ else _) = _
          rw [if_neg hn1, if_neg hc]
        have hl := proofR_len h f (m - half n) (a + half n) (n - half n) false
        have k1 := ih f (n - half n) (a + half n) (m - half n) false ((m : Int) - ((half n : Nat) : Int)) ((a : Int) + ((half n : Nat) : Int)) ((a : Int) + (n : Int)) w (by omega) (by omega) (by omega) (by omega) (by omega) (by omega) (by omega) (by omega) (by omega) ht hT hG
        have k2 := fun W (hW : Below w.heap.size w W) => one_calls b h hh hs n (half n) a (a : Int) ((a : Int) + ((half n : Nat) : Int)) W (by omega) (by omega) (by omega) (by omega) (by omega) (ht.below hW) (hT.below hW hT.lt) (hG.below hW)
        have d1 : decide ((m : Int) ≤ ((half n : Nat) : Int)) = false := decide_eq_false (by omega)
        have d2 : decide (m ≤ half n) = false := decide_eq_false hc
        rw [hp]
        generalize proofR h f (m - half n) (a + half n) (n - half n) false = P at *
        generalize seg h a (half n) = X at *
        generalize half n = mh at *
        have hl16 : (P.length + 1) * 16 ≤ 140737488355328 := by omega
        clear hp ih hmn hle ht hT hG hs hh hn1 hd h2 hl hf hfm hc
        go_enter Tryd.func93, Tryd.ntmps93
        go_wp2_with (first
          | (go_at_call 96; refine (kS _).mono ?_; rintro e w' ⟨rfl, hw'⟩; rw [hw']; clear hw' w')
          | (go_at_call 93; with_reducible refine k1.mono ?_; rintro e w1 ⟨v1, rfl, ho1, hb1⟩; obtain ⟨A1, c1, rfl, _⟩ := own_slc2 ho1; clear k1)
          | (go_at_call 101; with_reducible refine (k2 _ hb1).mono ?_; rintro e w2 ⟨rfl, hb2⟩; have hb2' := hb1.trans (hb2.mono hb1.size); have ho2 := pw_own_below ho1 hb2; clear k2)
          | (at_builtin; go_loud (refine print_append_of (w0 := w) Value.string w.heap.size rfl _ _ 22 9 (.string ⟨#[]⟩) 16 rfl Tryd.underlying22 inf9 rfl (by decide) (.slice A1 P.length c1) P X rfl rfl rfl ho2 hb2' hb2'.size hl16 ?_; intro v4 w4 hown4 hB4 _ _)))
        go_ret
        exact ⟨_, rfl, hown4, hB4⟩
end Go.Proofs.YtoeibcdnhglobaaDoor.P

/- proof.Root, Inclusion, Consistency: the walks. -/
namespace Go.Proofs.YtoeibcdnhglobaaDoor.P
set_option linter.unusedVariables false
set_option linter.unusedSimpArgs false
open Go.RowKit Go.Shelf Go.Proofs.YtoeibcdnhglobaaDoorW.PrintWords Go.Proofs.YtoeibcdnhglobaaDoorW.PrintLast Go.Proofs.YtoeibcdnhglobaaDoorW.PrintMore
open Go.Proofs.YtoeibcdnhglobaaDoor.Pure

/-- How many leaves a tree may have. -/
def szB (n : Int) : Bool := decide (0 ≤ n ∧ n ≤ 1048576)
theorem sizedP_calls (n : Int) (w : World) : Calls Tryd.prog 91 #[.int .i64 n] w fun e w' => e = .returned (.bool (szB n)) ∧ w' = w := by
  by_cases h0 : 0 ≤ n
  · by_cases h1 : n ≤ 1048576
    · have e : szB n = true := decide_eq_true ⟨h0, h1⟩
      rw [e]
      have d1 : decide (0 ≤ n) = true := decide_eq_true h0
      have d2 : decide (n ≤ 1048576) = true := decide_eq_true h1
      clear e
      go_enter Tryd.func91, Tryd.ntmps91
      go_wp2
      go_ret
      exact ⟨rfl, rfl⟩
    · have e : szB n = false := decide_eq_false (fun h => h1 h.2)
      rw [e]
      have d1 : decide (0 ≤ n) = true := decide_eq_true h0
      have d2 : decide (n ≤ 1048576) = false := decide_eq_false h1
      clear e
      go_enter Tryd.func91, Tryd.ntmps91
      go_wp2
      go_ret
      exact ⟨rfl, rfl⟩
  · have e : szB n = false := decide_eq_false (fun h => h0 h.1)
    rw [e]
    have d1 : decide (0 ≤ n) = false := decide_eq_false h0
    clear e
    go_enter Tryd.func91, Tryd.ntmps91
    go_wp2
    go_ret
    exact ⟨rfl, rfl⟩
theorem told_S (b : Nat) (h : List ByteArray) (A : Option Addr) (n c : Nat) (w : World) (t : Tel w b h) :
    Calls Tryd.prog 92 #[.pointer (some ⟨b, 0, none⟩), .slice A n c] w fun e w' => e = .returned (.tuple #[.slice A n c, .int .i64 0]) ∧ w' = w := by
  obtain ⟨A2, K, c2, hblk, _⟩ := t
  have k1 : w.cell? ⟨b, 1, none⟩ = some (.bool false) := by simp [World.cell?, hblk]
  clear hblk
  go_enter Tryd.func92, Tryd.ntmps92
  go_wp2
  go_ret2
  exact ⟨rfl, rfl⟩
theorem told_T (b : Nat) (h : List ByteArray) (s : ByteArray) (w : World) (t : Tel w b h) :
    Calls Tryd.prog 100 #[.pointer (some ⟨b, 0, none⟩), .string s] w fun e w' => e = .returned (.tuple #[.string s, .int .i64 0]) ∧ w' = w := by
  obtain ⟨A2, K, c2, hblk, _⟩ := t
  have k1 : w.cell? ⟨b, 1, none⟩ = some (.bool false) := by simp [World.cell?, hblk]
  clear hblk
  go_enter Tryd.func100, Tryd.ntmps100
  go_wp2
  go_ret2
  exact ⟨rfl, rfl⟩
/-- A teller, just made. -/
theorem Tel.new (w : World) (A : Option Addr) (K c : Nat) (h : List ByteArray) (s : SrcAt w A K h) : Tel (w.alloc (.cells #[.iface 112 (.slice A K c), .bool false] 119)) w.heap.size h :=
  ⟨A, K, c, heap_alloc_new w _, s.below ((Below.refl _ w).alloc (Nat.le_refl _) _)⟩
theorem seg_root (h : List ByteArray) (n : Nat) (h1 : 1 ≤ n) (hn : n ≤ h.length) : seg h 0 n = rootH (h.take n) := by
  rw [rootH_pos _ (by rw [List.length_take]; omega)]
  unfold seg
  rw [List.drop_zero]
set_option maxRecDepth 100000 in
set_option maxHeartbeats 4000000 in
theorem RootP_calls (A : Option Addr) (K c n : Nat) (h : List ByteArray) (w : World) (s : SrcAt w A K h) (hs : ∀ s ∈ h, s.size ≤ 32) (hn : n ≤ h.length) (hT : TzTab w) (hG : GlobH w) :
    Calls Tryd.prog 63 #[.iface 112 (.slice A K c), .int .i64 n] w fun e w' => e = .returned (.tuple #[.string (rootH (h.take n)), .int .i64 0]) ∧ Below w.heap.size w w' := by
  have hlen := s.len
  have hb1 : Below w.heap.size w (w.alloc (.cells #[.iface 112 (.slice A K c), .bool false] 119)) := (Below.refl _ w).alloc (Nat.le_refl _) _
  have kS := fun W => sizedP_calls (n : Int) W
  have hz : szB (n : Int) = true := decide_eq_true (by omega)
  rw [hz] at kS
  by_cases h0 : n = 0
  · subst h0
    have kR := fun W (hW : Below w.heap.size w W) => Root_calls none 0 [] W ⟨rfl, by simp, fun h => absurd h (Nat.lt_irrefl 0)⟩ (fun s hs => by cases hs) (by simp) (hT.below hW hT.lt) (hG.below hW)
    rw [List.take_zero]
    have hb := Below.refl w.heap.size w
    have kS0 := fun W => sizedP_calls 0 W
    rw [show szB 0 = true from rfl] at kS0
    clear s hs hn hlen hb1 hz kS
    show Calls Tryd.prog 63 #[.iface 112 (.slice A K c), .int .i64 0] w _
    go_enter Tryd.func63, Tryd.ntmps63
    go_wp2_with (first
      | (go_at_call 91; refine (kS0 _).mono ?_; rintro e w' ⟨rfl, hw'⟩; rw [hw']; clear hw' w')
      | (go_at_call 39; refine (kR _ hb).mono ?_; rintro e w1 ⟨rfl, hb1⟩))
    go_ret2
    exact ⟨rfl, hb1⟩
  · have e1 : ((n : Int) == 0) = false := by rw [beq_eq_false_iff_ne]; omega
    have ht := Tel.new w A K c h s
    have k1 := one_calls w.heap.size h hlen hs n n 0 0 (n : Int) _ (Nat.le_refl _) (by omega) rfl (by omega) (by omega) ht (hT.below hb1 hT.lt) (hG.below hb1)
    rw [seg_root h n (by omega) hn] at k1
    have k2 := fun W (hW : Below (w.alloc (.cells #[.iface 112 (.slice A K c), .bool false] 119)).heap.size (w.alloc (.cells #[.iface 112 (.slice A K c), .bool false] 119)) W) => told_T w.heap.size h (rootH (h.take n)) W (ht.below hW)
    have HB := Lib.hid hb1
    generalize rootH (List.take n h) = X at *
    clear h0 s hs hn hlen hz hb1 ht hT hG
    go_enter Tryd.func63, Tryd.ntmps63
    go_wp2_with (first
      | (go_at_call 91; refine (kS _).mono ?_; rintro e w' ⟨rfl, hw'⟩; rw [hw']; clear hw' w')
      | (go_at_call 101; go_loud (with_reducible refine k1.mono ?_; rintro e w1 ⟨rfl, hb1⟩))
      | (go_at_call 100; go_loud (refine (k2 _ hb1).mono ?_; rintro e w' ⟨rfl, hw'⟩; rw [hw']; clear hw' w')))
    go_ret2
    exact ⟨rfl, HB.out.trans (hb1.mono HB.out.size)⟩
set_option maxRecDepth 100000 in
set_option maxHeartbeats 4000000 in
theorem Inclusion_calls (A : Option Addr) (K c m n : Nat) (h : List ByteArray) (w : World) (s : SrcAt w A K h) (hs : ∀ s ∈ h, s.size ≤ 32) (hm : m < n) (hn : n ≤ h.length) (hT : TzTab w) (hG : GlobH w) :
    Calls Tryd.prog 64 #[.iface 112 (.slice A K c), .int .i64 m, .int .i64 n] w fun e w' => ∃ v, e = .returned (.tuple #[v, .int .i64 0]) ∧ w'.ownsRow w.heap.size 9 1 v (pathR h n m 0 n).length (encs Value.string (pathR h n m 0 n)) ∧ Below w.heap.size w w' := by
  have hlen := s.len
  have hb1 : Below w.heap.size w (w.alloc (.cells #[.iface 112 (.slice A K c), .bool false] 119)) := (Below.refl _ w).alloc (Nat.le_refl _) _
  have kS := fun W => sizedP_calls (n : Int) W
  have hz : szB (n : Int) = true := decide_eq_true (by omega)
  rw [hz] at kS
  have ht := Tel.new w A K c h s
  have k1 := path_calls w.heap.size h hlen hs n n n 0 m (m : Int) 0 (n : Int) _ (Nat.le_refl _) (Nat.le_refl _) (by omega) (by omega) hm (by omega) rfl (by omega) (by omega) ht (hT.below hb1 hT.lt) (hG.below hb1)
  have k2 := fun W (hW : Below (w.alloc (.cells #[.iface 112 (.slice A K c), .bool false] 119)).heap.size (w.alloc (.cells #[.iface 112 (.slice A K c), .bool false] 119)) W) A n c => told_S w.heap.size h A n c W (ht.below hW)
  have HB := Lib.hid hb1
  generalize pathR h n m 0 n = P at *
  have d1 : decide ((m : Int) < 0) = false := decide_eq_false (by omega)
  have d2 : decide (n ≤ m) = false := decide_eq_false (by omega)
  clear s hs hn hlen hz hb1 ht hT hG hm
  go_enter Tryd.func64, Tryd.ntmps64
  go_wp2_with (first
    | (go_at_call 91; refine (kS _).mono ?_; rintro e w' ⟨rfl, hw'⟩; rw [hw']; clear hw' w')
    | (go_at_call 102; go_loud (with_reducible refine k1.mono ?_; rintro e w1 ⟨v1, rfl, ho1, hb1⟩; obtain ⟨A1, c1, rfl, _⟩ := own_slc2 ho1))
    | (go_at_call 92; go_loud (refine (k2 _ hb1 _ _ _).mono ?_; rintro e w' ⟨rfl, hw'⟩; rw [hw']; clear hw' w')))
  go_ret2
  exact ⟨_, rfl, own_weaken ho1 HB.out.size, HB.out.trans (hb1.mono HB.out.size)⟩
set_option maxRecDepth 100000 in
set_option maxHeartbeats 4000000 in
theorem Consistency_calls (A : Option Addr) (K c m n : Nat) (h : List ByteArray) (w : World) (s : SrcAt w A K h) (hs : ∀ s ∈ h, s.size ≤ 32) (hm : m ≤ n) (h1 : 1 ≤ m) (hn : n ≤ h.length) (hT : TzTab w) (hG : GlobH w) :
    Calls Tryd.prog 48 #[.iface 112 (.slice A K c), .int .i64 m, .int .i64 n] w fun e w' => ∃ v, e = .returned (.tuple #[v, .int .i64 0]) ∧ w'.ownsRow w.heap.size 9 1 v (proofR h n m 0 n true).length (encs Value.string (proofR h n m 0 n true)) ∧ Below w.heap.size w w' := by
  have hlen := s.len
  have hb1 : Below w.heap.size w (w.alloc (.cells #[.iface 112 (.slice A K c), .bool false] 119)) := (Below.refl _ w).alloc (Nat.le_refl _) _
  have kS := fun W => sizedP_calls (n : Int) W
  have hz : szB (n : Int) = true := decide_eq_true (by omega)
  rw [hz] at kS
  have ht := Tel.new w A K c h s
  have k1 := proof_calls w.heap.size h hlen hs n n n 0 m true (m : Int) 0 (n : Int) _ (Nat.le_refl _) (Nat.le_refl _) (by omega) h1 hm rfl rfl (by omega) (by omega) ht (hT.below hb1 hT.lt) (hG.below hb1)
  have k2 := fun W (hW : Below (w.alloc (.cells #[.iface 112 (.slice A K c), .bool false] 119)).heap.size (w.alloc (.cells #[.iface 112 (.slice A K c), .bool false] 119)) W) A n c => told_S w.heap.size h A n c W (ht.below hW)
  have HB := Lib.hid hb1
  generalize proofR h n m 0 n true = P at *
  have d1 : decide ((m : Int) < 0) = false := decide_eq_false (by omega)
  have d2 : decide (n < m) = false := decide_eq_false (by omega)
  have d3 : ((m : Int) == 0) = false := by rw [beq_eq_false_iff_ne]; omega
  clear s hs hn hlen hz hb1 ht hT hG hm h1
  go_enter Tryd.func48, Tryd.ntmps48
  go_wp2_with (first
    | (go_at_call 91; refine (kS _).mono ?_; rintro e w' ⟨rfl, hw'⟩; rw [hw']; clear hw' w')
    | (go_at_call 93; go_loud (with_reducible refine k1.mono ?_; rintro e w1 ⟨v1, rfl, ho1, hb1⟩; obtain ⟨A1, c1, rfl, _⟩ := own_slc2 ho1))
    | (go_at_call 92; go_loud (refine (k2 _ hb1 _ _ _).mono ?_; rintro e w' ⟨rfl, hw'⟩; rw [hw']; clear hw' w')))
  go_ret2
  exact ⟨_, rfl, own_weaken ho1 HB.out.size, HB.out.trans (hb1.mono HB.out.size)⟩
set_option maxHeartbeats 4000000 in
theorem Consistency_zero (s : Value) (n : Int) (w : World) (h0 : 0 ≤ n) (h1 : n ≤ 1048576) :
    Calls Tryd.prog 48 #[s, .int .i64 0, .int .i64 n] w fun e w' => e = .returned (.tuple #[.slice none 0 0, .int .i64 0]) ∧ w' = w := by
  have kS := fun W => sizedP_calls n W
  rw [show szB n = true from decide_eq_true ⟨h0, h1⟩] at kS
  have d2 : decide (n < 0) = false := decide_eq_false (by omega)
  have d3 : ((0 : Int) == 0) = true := rfl
  go_enter Tryd.func48, Tryd.ntmps48
  go_wp2_with (go_at_call 91; refine (kS _).mono ?_; rintro e w' ⟨rfl, hw'⟩; rw [hw']; clear hw' w')
  go_ret2
  exact ⟨rfl, rfl⟩
set_option maxHeartbeats 4000000 in
theorem Consistency_range (s : Value) (m n : Int) (w : World) (hbad : szB n = false ∨ m < 0 ∨ n < m) :
    Calls Tryd.prog 48 #[s, .int .i64 m, .int .i64 n] w fun e w' => e = .returned (.tuple #[.slice none 0 0, .int .i64 6]) ∧ w' = w := by
  have kS := fun W => sizedP_calls n W
  cases hz : szB n with
  | false =>
    rw [hz] at kS
    clear hbad hz
    go_enter Tryd.func48, Tryd.ntmps48
    go_wp2_with (go_at_call 91; refine (kS _).mono ?_; rintro e w' ⟨rfl, hw'⟩; rw [hw']; clear hw' w')
    go_ret2
    exact ⟨rfl, rfl⟩
  | true =>
    rw [hz] at kS
    by_cases h1 : m < 0
    · have d1 : decide (m < 0) = true := decide_eq_true h1
      clear hbad hz
      go_enter Tryd.func48, Tryd.ntmps48
      go_wp2_with (go_at_call 91; refine (kS _).mono ?_; rintro e w' ⟨rfl, hw'⟩; rw [hw']; clear hw' w')
      go_ret2
      exact ⟨rfl, rfl⟩
    · have h2 : n < m := by rcases hbad with h | h | h; (rw [hz] at h; cases h); exact absurd h h1; exact h
      have d1 : decide (m < 0) = false := decide_eq_false h1
      have d2 : decide (n < m) = true := decide_eq_true h2
      clear hbad hz h1
      go_enter Tryd.func48, Tryd.ntmps48
      go_wp2_with (go_at_call 91; refine (kS _).mono ?_; rintro e w' ⟨rfl, hw'⟩; rw [hw']; clear hw' w')
      go_ret2
      exact ⟨rfl, rfl⟩
set_option maxHeartbeats 4000000 in
theorem Inclusion_range (s : Value) (m n : Int) (w : World) (hbad : szB n = false ∨ m < 0 ∨ n ≤ m) :
    Calls Tryd.prog 64 #[s, .int .i64 m, .int .i64 n] w fun e w' => e = .returned (.tuple #[.slice none 0 0, .int .i64 6]) ∧ w' = w := by
  have kS := fun W => sizedP_calls n W
  cases hz : szB n with
  | false =>
    rw [hz] at kS
    clear hbad hz
    go_enter Tryd.func64, Tryd.ntmps64
    go_wp2_with (go_at_call 91; refine (kS _).mono ?_; rintro e w' ⟨rfl, hw'⟩; rw [hw']; clear hw' w')
    go_ret2
    exact ⟨rfl, rfl⟩
  | true =>
    rw [hz] at kS
    by_cases h1 : m < 0
    · have d1 : decide (m < 0) = true := decide_eq_true h1
      clear hbad hz
      go_enter Tryd.func64, Tryd.ntmps64
      go_wp2_with (go_at_call 91; refine (kS _).mono ?_; rintro e w' ⟨rfl, hw'⟩; rw [hw']; clear hw' w')
      go_ret2
      exact ⟨rfl, rfl⟩
    · have h2 : n ≤ m := by rcases hbad with h | h | h; (rw [hz] at h; cases h); exact absurd h h1; exact h
      have d1 : decide (m < 0) = false := decide_eq_false h1
      have d2 : decide (n ≤ m) = true := decide_eq_true h2
      clear hbad hz h1
      go_enter Tryd.func64, Tryd.ntmps64
      go_wp2_with (go_at_call 91; refine (kS _).mono ?_; rintro e w' ⟨rfl, hw'⟩; rw [hw']; clear hw' w')
      go_ret2
      exact ⟨rfl, rfl⟩
end Go.Proofs.YtoeibcdnhglobaaDoor.P
