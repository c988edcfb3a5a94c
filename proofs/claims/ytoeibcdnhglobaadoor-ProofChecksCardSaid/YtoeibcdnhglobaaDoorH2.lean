/- Texts of the seat, joined: GPNd, GSame, GPAny. -/
import Derived.Test.YtoeibcdnhglobaaDoorGLv10
import Derived.Test.YtoeibcdnhglobaaDoorF4
/- pantilelaw10.ProofNodes: the walk. -/
namespace Go.Proofs.YtoeibcdnhglobaaDoor.P
set_option linter.unusedVariables false
set_option linter.unusedSimpArgs false
open Go.RowKit Go.Shelf Go.Proofs.YtoeibcdnhglobaaDoorW.PrintWords Go.Proofs.YtoeibcdnhglobaaDoorW.PrintLast Go.Proofs.YtoeibcdnhglobaaDoorW.PrintMore
open Go.Proofs.YtoeibcdnhglobaaDoor.Pure

/-- The hashes made, then read as a source. -/
theorem hashes_of (A : Option Addr) (c : Nat) (ps : List Part) (most : Nat) (hmost : most ≤ 1000000) (w : World) (h : Leaves w A ps) :
    Calls Tryd.prog 46 #[.slice A ps.length c, .int .i64 most] w fun e w' => ∃ A1 c1, e = .returned (.slice A1 (hash10 ps most).length c1) ∧ (hash10 ps most).length ≤ c1 ∧ StrRow w' A1 (hash10 ps most) ∧ ReadsOf Value.string ByteArray.empty w' A1 (hash10 ps most).length (hash10 ps most) ∧ Below w.heap.size w w' := by
  refine (Hashes10_calls A c ps most hmost w h).mono ?_
  rintro e w' ⟨v, he, ho, hb⟩
  obtain ⟨A1, c1, rfl, hc1⟩ := own_slc0 ho
  exact ⟨A1, c1, he, hc1, StrRow.of_own ho, own_reads_of' (d := ByteArray.empty) ho, hb⟩
theorem StrRow.rd {w : World} {A : Option Addr} {h : List ByteArray} (s : StrRow w A h) (hl : h.length ≤ 1000000) : ReadsOf Value.string ByteArray.empty w A h.length h := by
  refine ⟨rfl, by omega, fun hp => ?_⟩
  rcases s with ⟨_, rfl⟩ | ⟨g, rfl, hc⟩
  · exact absurd hp (by simp)
  · refine ⟨_, rfl, fun j hj => ?_⟩
    rw [add_plain, hc j hj]
    simp [List.getD_eq_getElem?_getD, hj]
/-- Of at a row that was just made. -/
theorem of_row (A : Option Addr) (c : Nat) (xs : List ByteArray) (w : World) (hs : StrRow w A xs) (hn : xs.length ≤ 1000000) (hsz : ∀ s ∈ xs, s.size ≤ 32) (hG : GlobH w) :
    Calls Tryd.prog 47 #[.slice A xs.length c] w fun e w' => ∃ A' K c', e = .returned (.iface 112 (.slice A' K c')) ∧ SrcAt w' A' K xs ∧ Below w.heap.size w w' :=
  callsIn_wide.1 (Of_in 10 (Nat.le_refl _) A c xs w hs hn hsz hG)
set_option maxRecDepth 100000 in
set_option maxHeartbeats 8000000 in
theorem PNodes_no (A : Option Addr) (c : Nat) (ps : List Part) (level index : Int) (w : World) (h : Leaves w A ps) (hT : TzTab w) (hG : GlobH w) (hbad : level < 0 ∨ 6 < level ∨ index < 0 ∨ 20 < index) :
    Calls Tryd.prog 10 #[.slice A ps.length c, .int .i64 level, .int .i64 index] w fun e w' => e = .returned (.bool true) ∧ Below w.heap.size w w' := by
  have kH : Calls Tryd.prog 46 #[.slice A ps.length c, .int .i64 20] w _ := hashes_of A c ps 20 (by omega) w h
  have hlen := hash10_len ps 20
  have hsz := hash10_sz ps 20
  generalize hash10 ps 20 = L at *
  have kO := fun (A : Option Addr) (c : Nat) (W : World) (hs : StrRow W A L) (hW : Below w.heap.size w W) => of_row A c L W hs (by omega) hsz (hG.below hW)
  have hno : level < 0 ∨ index < 0 ∨ (0 ≤ level ∧ 0 ≤ index ∧ ((lvl joinH L level.toNat).length : Int) ≤ index) := by
    rcases Int.lt_or_le level 0 with c | c
    · exact .inl c
    rcases Int.lt_or_le index 0 with d | d
    · exact .inr (.inl d)
    refine .inr (.inr ⟨c, d, ?_⟩)
    rw [lvl_length]
    rcases hbad with b | b | b | b
    · omega
    · have h7 : 7 ≤ level.toNat := by omega
      have hp : 2 ^ 7 ≤ 2 ^ level.toNat := Nat.pow_le_pow_right (by omega) h7
      have : L.length / 2 ^ level.toNat = 0 := Nat.div_eq_of_lt (by omega)
      rw [this]; exact d
    · omega
    · have := Nat.div_le_self L.length (2 ^ level.toNat)
      omega
  have kN := fun (A : Option Addr) (K c : Nat) (W : World) (s : SrcAt W A K L) => Node_no A K c L level index W s hno
  have kL := fun (W : World) (hW : Below w.heap.size w W) => lives10_calls W (hT.below hW hT.lt) (hG.below hW)
  have hmeth := fun A K c W => method_Node A K c W
  obtain ⟨x0, e0⟩ : ∃ b, decide (level < 0) = b := ⟨_, rfl⟩
  obtain ⟨x1, e1⟩ : ∃ b, decide (6 < level) = b := ⟨_, rfl⟩
  obtain ⟨x2, e2⟩ : ∃ b, decide (index < 0) = b := ⟨_, rfl⟩
  obtain ⟨x3, e3⟩ : ∃ b, decide (20 < index) = b := ⟨_, rfl⟩
  have hx : (x0 || x1 || x2 || x3) = true := by
    rw [← e0, ← e1, ← e2, ← e3]
    simp only [Bool.or_eq_true, decide_eq_true_eq]
    omega
  generalize L.length = N at *
  clear hsz hlen hbad hno h hT hG
  cases x0 <;> cases x1 <;> cases x2 <;> cases x3 <;> first | (exact absurd hx (by decide)) | skip
  all_goals
    clear hx
    go_enter Tryd.func10, Tryd.ntmps10
    go_wp2_with (first
      | (go_at_call 46; go_loud (with_reducible refine kH.mono ?_; rintro e w1 ⟨A1, c1, rfl, hc1, hs1, _, hb1⟩))
      | (go_at_call 47; go_loud (refine (kO _ _ _ hs1 hb1).mono ?_; rintro e w2 ⟨A2, K2, c2, rfl, hs2, hb2⟩; have hB := hb1.trans (hb2.mono hb1.size)))
      | (go_at_call 188; go_loud (refine (kN _ _ _ _ hs2).mono ?_; rintro e w' ⟨rfl, hw'⟩; rw [hw']; clear hw' w'))
      | (go_at_call 49; go_loud (refine (kL _ hB).mono ?_; rintro e w3 ⟨rfl, hb3⟩)))
    go_ret
    exact ⟨rfl, hB.trans (hb3.mono hB.size)⟩
set_option maxRecDepth 100000 in
set_option maxHeartbeats 8000000 in
theorem PNodes_in (A : Option Addr) (c : Nat) (ps : List Part) (j i : Nat) (w : World) (h : Leaves w A ps) (hT : TzTab w) (hG : GlobH w) (hj : j ≤ 6) (hi : i ≤ 20) :
    Calls Tryd.prog 10 #[.slice A ps.length c, .int .i64 j, .int .i64 i] w fun e w' => e = .returned (.bool true) ∧ Below w.heap.size w w' := by
  have kH : Calls Tryd.prog 46 #[.slice A ps.length c, .int .i64 20] w _ := hashes_of A c ps 20 (by omega) w h
  have hlen := hash10_len ps 20
  have hsz := hash10_sz ps 20
  generalize hash10 ps 20 = L at *
  have kO := fun (A : Option Addr) (c : Nat) (W : World) (hs : StrRow W A L) (hW : Below w.heap.size w W) => of_row A c L W hs (by omega) hsz (hG.below hW)
  have kL := fun (W : World) (hW : Below w.heap.size w W) => lives10_calls W (hT.below hW hT.lt) (hG.below hW)
  have hmeth := fun A K c W => method_Node A K c W
  have hp0 : 0 < 2 ^ j := Nat.two_pow_pos j
  have hp6 : 2 ^ j ≤ 64 := Nat.pow_le_pow_right (by omega) hj
  have e0 : decide ((j : Int) < 0) = false := decide_eq_false (by omega)
  have e1 : decide ((6 : Int) < (j : Int)) = false := decide_eq_false (by omega)
  have e2 : decide ((i : Int) < 0) = false := decide_eq_false (by omega)
  have e3 : decide ((20 : Int) < (i : Int)) = false := decide_eq_false (by omega)
  have hjI : (j : Int) ≤ 6 := by omega
  have hiI : (i : Int) ≤ 20 := by omega
  have HP6 := Lib.hid hp6
  have hNb : (L.length : Int) ≤ 20 := by omega
  have hq1 : (i + 1) * 2 ^ j = i * 2 ^ j + 2 ^ j := Nat.succ_mul _ _
  have hr1 : i * 2 ^ j ≤ 20 * 64 := Nat.mul_le_mul hi hp6
  obtain ⟨r, hr⟩ : ∃ r, r = i * 2 ^ j := ⟨_, rfl⟩
  obtain ⟨q, hq⟩ : ∃ q, q = (i + 1) * 2 ^ j := ⟨_, rfl⟩
  have hR : (i : Int) * ((2 ^ j : Nat) : Int) = (r : Int) := by rw [hr, Int.natCast_mul]
  have hQ : ((i : Int) + 1) * ((2 ^ j : Nat) : Int) = (q : Int) := by rw [hq, Int.natCast_mul]; rfl
  have hqI : (q : Int) ≤ 2000 := by omega
  have hrI : (r : Int) ≤ 2000 := by omega
  have hqr : (r : Int) ≤ (q : Int) := by omega
  by_cases hyes : q ≤ L.length
  · have hil : i < (lvl joinH L j).length := by
      rw [lvl_length]
      exact Nat.lt_of_lt_of_le (Nat.lt_succ_self i) ((Nat.le_div_iff_mul_le hp0).2 (hq ▸ hyes))
    have kN := fun (A : Option Addr) (K c : Nat) (W : World) (s : SrcAt W A K L) => Node_yes A K c L j i W s hil
    obtain ⟨i9, hi9, _, hsz9, _⟩ := info_parts inf9
    have kS : ∀ (A1 : Option Addr) (c1 : Nat), L.length ≤ c1 → _ := fun A1 c1 hc => print_mid_of (P := Tryd.prog) Value.string ByteArray.empty 22 9 .i64 .i64 Tryd.underlying22 hi9 hsz9 A1 c1 L (r : Int) (q : Int) (by omega) hqr (by omega) hc
    have hTake : (L.take (q : Int).toNat).drop (r : Int).toNat = (L.drop (i * 2 ^ j)).take (2 ^ j) := by
      rw [Int.toNat_natCast, Int.toNat_natCast, hq, hr, hq1, List.drop_take, Nat.add_sub_cancel_left]
    rw [lvl_get joinH ByteArray.empty L j i hil] at kN
    have hll : ((L.drop (i * 2 ^ j)).take (2 ^ j)).length = 2 ^ j := by rw [List.length_take, List.length_drop]; omega
    have hroot : rootH ((L.drop (i * 2 ^ j)).take (2 ^ j)) = Tree joinH ByteArray.empty ((L.drop (i * 2 ^ j)).take (2 ^ j)) := rootH_pos _ (by omega)
    have kR := fun (A : Option Addr) (c : Nat) (W : World) hr hc => RootR_calls 64 ((L.drop (i * 2 ^ j)).take (2 ^ j)) (by omega) (by omega) (fun s hm => hsz s (List.mem_of_mem_drop (List.mem_of_mem_take hm))) A c W hr hc
    simp only [hTake] at kS
    rw [hroot] at kR
    generalize Tree joinH ByteArray.empty ((L.drop (i * 2 ^ j)).take (2 ^ j)) = X at *
    generalize ((L.drop (i * 2 ^ j)).take (2 ^ j)) = L2 at *
    have e4 : decide (L.length < q) = false := decide_eq_false (by omega)
    have hqN : (q : Int) ≤ (L.length : Int) := by omega
    have hL2 : (L2.length : Int) ≤ 64 := by omega
    simp only [Int.toNat_natCast] at kS
    generalize L.length = N at *
    generalize L2.length = N2 at *
    clear hsz hlen h hT hG hyes hq hr hq1 hr1 hTake hroot hll hi9 hsz9 hil
    go_enter Tryd.func10, Tryd.ntmps10
    go_wp2_with (first
      | (go_at_call 46; go_loud (with_reducible refine kH.mono ?_; rintro e w1 ⟨A1, c1, rfl, hc1, hs1, hd1, hb1⟩; obtain ⟨A9, hcut, hA9, hC9⟩ := kS A1 c1 hc1; clear kS))
      | (go_at_call 47; go_loud (refine (kO _ _ _ hs1 hb1).mono ?_; rintro e w2 ⟨A2, K2, c2, rfl, hs2, hb2⟩; have hB := hb1.trans (hb2.mono hb1.size)))
      | (go_at_call 188; go_loud (refine (kN _ _ _ _ hs2).mono ?_; rintro e w' ⟨rfl, hw'⟩; rw [hw']; clear hw' w')))
    go_loopw [11, 12] (fun v11 v12 wr => ∃ k p : Nat, v11 = .int .i64 p ∧ v12 = .int .i64 k ∧ k ≤ j ∧ Hid (p = 2 ^ k) ∧ p ≤ 64 ∧ wr = w2) (fun _ v12 _ => j - (intOf v12).toNat)
    case atStart => exact ⟨0, 1, rfl, rfl, by omega, Lib.hid rfl, by omega, rfl⟩
    case round =>
      obtain ⟨k, p, rfl, rfl, hk, HP, hp, rfl⟩ := hrel
      by_cases hlt : k < j
      · have hd : decide ((k : Int) < (j : Int)) = true := decide_eq_true (by omega)
        have HP2 : Hid (2 * p = 2 ^ (k + 1)) := Lib.hid (by rw [HP.out, Nat.pow_succ, Nat.mul_comm])
        have hp2 : 2 * p ≤ 64 := by
          rw [HP2.out]
          exact Nat.le_trans (Nat.pow_le_pow_right (by omega) hlt) HP6.out
        have hpI : (p : Int) ≤ 64 := by omega
        go_wp2
        exact ⟨⟨k + 1, 2 * p, by go_num, by go_num, by omega, HP2, hp2, trivial⟩, by simp only [intOf]; omega⟩
      · have hrd := hA9 _ (hd1.below (hb2))
        have kR' := kR A9 _ _ hrd hC9
        have hd : decide ((k : Int) < (j : Int)) = false := decide_eq_false (by omega)
        have hpe : p = 2 ^ j := by rw [HP.out, show k = j by omega]
        rw [← hpe] at hR hQ
        have hpI : (p : Int) ≤ 64 := by omega
        clear hpe hp0 hp6 HP6
        clear hrd hA9 hC9
        go_wp2_with (first
          | (go_at_call 40; go_loud (with_reducible refine kR'.mono ?_; rintro e w4 ⟨rfl, hb4⟩; have hB4 := hB.trans (hb4.mono hB.size)))
          | (go_at_call 49; go_loud (refine (kL _ hB4).mono ?_; rintro e w3 ⟨rfl, hb3⟩)))
        go_ret
        exact ⟨rfl, hB4.trans (hb3.mono hB4.size)⟩
  · have kN := fun (A : Option Addr) (K c : Nat) (W : World) (s : SrcAt W A K L) => Node_no A K c L (j : Int) (i : Int) W s (by
      refine .inr (.inr ⟨by omega, by omega, ?_⟩)
      rw [lvl_length, Int.toNat_natCast]
      have : L.length / 2 ^ j < i + 1 := (Nat.div_lt_iff_lt_mul hp0).2 (by omega)
      omega)
    have e4 : decide (L.length < q) = true := decide_eq_true (by omega)
    generalize L.length = N at *
    clear hsz hlen h hT hG hyes hq hr hq1 hr1
    go_enter Tryd.func10, Tryd.ntmps10
    go_wp2_with (first
      | (go_at_call 46; go_loud (with_reducible refine kH.mono ?_; rintro e w1 ⟨A1, c1, rfl, hc1, hs1, _, hb1⟩))
      | (go_at_call 47; go_loud (refine (kO _ _ _ hs1 hb1).mono ?_; rintro e w2 ⟨A2, K2, c2, rfl, hs2, hb2⟩; have hB := hb1.trans (hb2.mono hb1.size)))
      | (go_at_call 188; go_loud (refine (kN _ _ _ _ hs2).mono ?_; rintro e w' ⟨rfl, hw'⟩; rw [hw']; clear hw' w')))
    go_loopw [11, 12] (fun v11 v12 wr => ∃ k p : Nat, v11 = .int .i64 p ∧ v12 = .int .i64 k ∧ k ≤ j ∧ Hid (p = 2 ^ k) ∧ p ≤ 64 ∧ wr = w2) (fun _ v12 _ => j - (intOf v12).toNat)
    case atStart => exact ⟨0, 1, rfl, rfl, by omega, Lib.hid rfl, by omega, rfl⟩
    case round =>
      obtain ⟨k, p, rfl, rfl, hk, HP, hp, rfl⟩ := hrel
      by_cases hlt : k < j
      · have hd : decide ((k : Int) < (j : Int)) = true := decide_eq_true (by omega)
        have HP2 : Hid (2 * p = 2 ^ (k + 1)) := Lib.hid (by rw [HP.out, Nat.pow_succ, Nat.mul_comm])
        have hp2 : 2 * p ≤ 64 := by
          rw [HP2.out]
          exact Nat.le_trans (Nat.pow_le_pow_right (by omega) hlt) HP6.out
        have hpI : (p : Int) ≤ 64 := by omega
        go_wp2
        exact ⟨⟨k + 1, 2 * p, by go_num, by go_num, by omega, HP2, hp2, trivial⟩, by simp only [intOf]; omega⟩
      · have hd : decide ((k : Int) < (j : Int)) = false := decide_eq_false (by omega)
        have hpe : p = 2 ^ j := by rw [HP.out, show k = j by omega]
        rw [← hpe] at hR hQ
        have hpI : (p : Int) ≤ 64 := by omega
        clear hpe hp0 hp6 HP6
        go_wp2_with (go_at_call 49; go_loud (refine (kL _ hB).mono ?_; rintro e w3 ⟨rfl, hb3⟩))
        go_ret
        exact ⟨rfl, hB.trans (hb3.mono hB.size)⟩
theorem ProofNodes_calls (A : Option Addr) (c : Nat) (ps : List Part) (level index : Int) (w : World) (h : Leaves w A ps) (hT : TzTab w) (hG : GlobH w) :
    Calls Tryd.prog 10 #[.slice A ps.length c, .int .i64 level, .int .i64 index] w fun e w' => e = .returned (.bool true) ∧ Below w.heap.size w w' := by
  by_cases hb : level < 0 ∨ 6 < level ∨ index < 0 ∨ 20 < index
  · exact PNodes_no A c ps level index w h hT hG hb
  · obtain ⟨j, rfl⟩ : ∃ j : Nat, level = j := ⟨level.toNat, by omega⟩
    obtain ⟨i, rfl⟩ : ∃ i : Nat, index = i := ⟨index.toNat, by omega⟩
    exact PNodes_in A c ps j i w h hT hG (by omega) (by omega)
end Go.Proofs.YtoeibcdnhglobaaDoor.P

/- pantileref09.Same: the walk. -/
namespace Go.Proofs.YtoeibcdnhglobaaDoor.P
set_option linter.unusedVariables false
set_option linter.unusedSimpArgs false
open Go.RowKit Go.Shelf Go.Proofs.YtoeibcdnhglobaaDoorW.PrintWords Go.Proofs.YtoeibcdnhglobaaDoorW.PrintLast Go.Proofs.YtoeibcdnhglobaaDoorW.PrintMore
open Go.Proofs.YtoeibcdnhglobaaDoor.Pure

set_option maxRecDepth 100000 in
set_option maxHeartbeats 4000000 in
theorem Same_calls (A0 A1 : Option Addr) (c0 c1 : Nat) (l : List ByteArray) (w : World) (h0 : ReadsOf Value.string ByteArray.empty w A0 l.length l) (h1 : ReadsOf Value.string ByteArray.empty w A1 l.length l) :
    Calls Tryd.prog 34 #[.slice A0 l.length c0, .slice A1 l.length c1] w fun e w' => e = .returned (.bool true) ∧ Below w.heap.size w w' := by
  have hbig := h0.2.1
  go_enter Tryd.func34, Tryd.ntmps34
  go_wp2
  go_loopw [5] (fun v5 wr => ∃ (i : Nat), v5 = .int .i64 i ∧ i ≤ l.length ∧ Below w.heap.size w wr) (fun v5 _ => l.length - (intOf v5).toNat)
  case atStart => exact ⟨0, rfl, by omega, Below.refl _ _⟩
  case round =>
    obtain ⟨i, rfl, hi, hb⟩ := hrel
    by_cases hlt : i < l.length
    · obtain ⟨ad0, rfl, hcell0⟩ := h0.at_ i (by omega) (by omega)
      obtain ⟨ad1, rfl, hcell1⟩ := h1.at_ i (by omega) (by omega)
      have hd0 := (hb.cell (World.block_lt_of_cell? _ _ hcell0)).trans hcell0
      have hd1 := (hb.cell (World.block_lt_of_cell? _ _ hcell1)).trans hcell1
      rw [Int.toNat_natCast] at hd0 hd1
      generalize rdOf ByteArray.empty l (i : Int) = x at *
      have hlI : (i : Int) < (l.length : Int) := by omega
      have hdd : decide ((i : Int) < (l.length : Int)) = true := decide_eq_true hlI
      clear hcell0 hcell1 h0 h1
      go_wp2
      go_quiet (fail)
      go_wp2
      go_roundw
      case rel => exact ⟨i + 1, rfl, by omega, pw_below_drewN hb _⟩
      case measure => simp only [intOf]; omega
    · have hdd : decide ((i : Int) < (l.length : Int)) = false := decide_eq_false (by omega)
      clear h0 h1
      go_wp2
      go_ret
      exact ⟨rfl, hb⟩
end Go.Proofs.YtoeibcdnhglobaaDoor.P

/- pantilelaw10.ProofPrefix: the walk. -/
namespace Go.Proofs.YtoeibcdnhglobaaDoor.P
set_option linter.unusedVariables false
set_option linter.unusedSimpArgs false
open Go.RowKit Go.Shelf Go.Proofs.YtoeibcdnhglobaaDoorW.PrintWords Go.Proofs.YtoeibcdnhglobaaDoorW.PrintLast Go.Proofs.YtoeibcdnhglobaaDoorW.PrintMore
open Go.Proofs.YtoeibcdnhglobaaDoor.Pure

theorem wf64 {n : Int} (h : (Lit.int .i64 n).wf = true) : -9223372036854775808 ≤ n ∧ n ≤ 9223372036854775807 := by
  have h2 : (decide ((-9223372036854775808 : Int) ≤ n) && decide (n ≤ 9223372036854775807)) = true := h
  rw [Bool.and_eq_true, decide_eq_true_eq, decide_eq_true_eq] at h2
  exact h2
theorem seg_take (h : List ByteArray) (N a n : Nat) (hle : a + n ≤ N) : seg (h.take N) a n = seg h a n := by
  unfold seg
  rw [List.drop_take, List.take_take, Nat.min_eq_left (by omega)]
theorem pathR_take (h : List ByteArray) (N : Nat) : ∀ (f m a n : Nat), a + n ≤ N → pathR (h.take N) f m a n = pathR h f m a n
  | 0, _, _, _, _ => rfl
  | f + 1, m, a, n, hle => by
    unfold pathR
    by_cases h1 : n ≤ 1
    · rw [if_pos h1, if_pos h1]
    · have hh := half_lt (n := n) (by omega)
      rw [if_neg h1, if_neg h1, pathR_take h N f m a (half n) (by omega), pathR_take h N f (m - half n) (a + half n) (n - half n) (by omega), seg_take h N _ _ (by omega), seg_take h N _ _ (by omega)]
theorem proofR_take (h : List ByteArray) (N : Nat) : ∀ (f m a n : Nat) (kn : Bool), a + n ≤ N → 1 ≤ m → m ≤ n → proofR (h.take N) f m a n kn = proofR h f m a n kn
  | 0, _, _, _, _, _, _, _ => rfl
  | f + 1, m, a, n, kn, hle, h1, hm => by
    unfold proofR
    by_cases he : m = n
    · rw [if_pos he, if_pos he, seg_take h N _ _ hle]
    · have hh := half_lt (n := n) (by omega)
      rw [if_neg he, if_neg he]
      by_cases hc : m ≤ half n
      · rw [if_pos hc, if_pos hc, proofR_take h N f m a (half n) kn (by omega) h1 hc, seg_take h N _ _ (by omega)]
      · rw [if_neg hc, if_neg hc, proofR_take h N f (m - half n) (a + half n) (n - half n) false (by omega) (by omega) (by omega), seg_take h N _ _ (by omega)]
/-- What Inclusion and Consistency answer at any index. -/
def incE (m : Int) (n : Nat) : Int := if m < 0 ∨ (n : Int) ≤ m then 6 else 0
def incP (h : List ByteArray) (m : Int) (n : Nat) : List ByteArray := if m < 0 ∨ (n : Int) ≤ m then [] else pathR h n m.toNat 0 n
def conE (m : Int) (n : Nat) : Int := if m < 0 ∨ (n : Int) < m then 6 else 0
def conP (h : List ByteArray) (m : Int) (n : Nat) : List ByteArray := if m < 0 ∨ (n : Int) < m then [] else if m = 0 then [] else proofR h n m.toNat 0 n true
theorem incP_take (h : List ByteArray) (m : Int) (n : Nat) : incP (h.take n) m n = incP h m n := by
  unfold incP
  split
  · rfl
  · exact pathR_take h n _ _ _ _ (by omega)
theorem conP_take (h : List ByteArray) (m : Int) (n : Nat) : conP (h.take n) m n = conP h m n := by
  unfold conP
  split
  · rfl
  · split
    · rfl
    · exact proofR_take h n _ _ _ _ _ (by omega) (by omega) (by omega)
theorem rd_nil (w : World) : ReadsOf Value.string ByteArray.empty w none ([] : List ByteArray).length [] := ⟨rfl, by simp, fun h => absurd h (Nat.lt_irrefl 0)⟩
theorem Inc_any (A : Option Addr) (K c : Nat) (m : Int) (n : Nat) (h : List ByteArray) (w : World) (s : SrcAt w A K h) (hs : ∀ s ∈ h, s.size ≤ 32) (hn : n ≤ h.length) (hT : TzTab w) (hG : GlobH w) :
    Calls Tryd.prog 64 #[.iface 112 (.slice A K c), .int .i64 m, .int .i64 n] w fun e w' => ∃ A1 c1, e = .returned (.tuple #[.slice A1 (incP h m n).length c1, .int .i64 (incE m n)]) ∧ (incP h m n).length ≤ c1 ∧ ReadsOf Value.string ByteArray.empty w' A1 (incP h m n).length (incP h m n) ∧ Below w.heap.size w w' := by
  have hlen := s.len
  by_cases hb : m < 0 ∨ (n : Int) ≤ m
  · unfold incP incE
    rw [if_pos hb, if_pos hb]
    refine (Inclusion_range _ m n w (.inr hb)).mono ?_
    rintro e w' ⟨rfl, rfl⟩
    exact ⟨none, 0, rfl, Nat.le_refl _, rd_nil _, Below.refl _ _⟩
  · obtain ⟨k, rfl⟩ : ∃ k : Nat, m = k := ⟨m.toNat, by omega⟩
    unfold incP incE
    rw [if_neg hb, if_neg hb, Int.toNat_natCast]
    refine (Inclusion_calls A K c k n h w s hs (by omega) hn hT hG).mono ?_
    rintro e w' ⟨v, rfl, ho, hb⟩
    obtain ⟨A1, c1, rfl, hc⟩ := own_slc0 ho
    exact ⟨A1, c1, rfl, hc, own_reads_of' (d := ByteArray.empty) ho, hb⟩
theorem Con_any (A : Option Addr) (K c : Nat) (m : Int) (n : Nat) (h : List ByteArray) (w : World) (s : SrcAt w A K h) (hs : ∀ s ∈ h, s.size ≤ 32) (hn : n ≤ h.length) (hT : TzTab w) (hG : GlobH w) :
    Calls Tryd.prog 48 #[.iface 112 (.slice A K c), .int .i64 m, .int .i64 n] w fun e w' => ∃ A1 c1, e = .returned (.tuple #[.slice A1 (conP h m n).length c1, .int .i64 (conE m n)]) ∧ (conP h m n).length ≤ c1 ∧ ReadsOf Value.string ByteArray.empty w' A1 (conP h m n).length (conP h m n) ∧ Below w.heap.size w w' := by
  have hlen := s.len
  by_cases hb : m < 0 ∨ (n : Int) < m
  · unfold conP conE
    rw [if_pos hb, if_pos hb]
    refine (Consistency_range _ m n w (.inr hb)).mono ?_
    rintro e w' ⟨rfl, rfl⟩
    exact ⟨none, 0, rfl, Nat.le_refl _, rd_nil _, Below.refl _ _⟩
  · unfold conP conE
    rw [if_neg hb, if_neg hb]
    by_cases h0 : m = 0
    · subst h0
      rw [if_pos rfl]
      refine (Consistency_zero _ n w (by omega) (by omega)).mono ?_
      rintro e w' ⟨rfl, rfl⟩
      exact ⟨none, 0, rfl, Nat.le_refl _, rd_nil _, Below.refl _ _⟩
    · obtain ⟨k, rfl⟩ : ∃ k : Nat, m = k := ⟨m.toNat, by omega⟩
      rw [if_neg h0, Int.toNat_natCast]
      refine (Consistency_calls A K c k n h w s hs (by omega) (by omega) hn hT hG).mono ?_
      rintro e w' ⟨v, rfl, ho, hb⟩
      obtain ⟨A1, c1, rfl, hc⟩ := own_slc0 ho
      exact ⟨A1, c1, rfl, hc, own_reads_of' (d := ByteArray.empty) ho, hb⟩
theorem StrRow.take_ {w : World} {A : Option Addr} {h : List ByteArray} (s : StrRow w A h) (n : Nat) : StrRow w A (h.take n) := by
  rcases s with ⟨rfl, rfl⟩ | ⟨g, rfl, hc⟩
  · exact .inl ⟨rfl, List.take_nil⟩
  · refine .inr ⟨g, rfl, fun j hj => ?_⟩
    rw [List.length_take] at hj
    rw [hc j (by omega), List.getElem_take]
end Go.Proofs.YtoeibcdnhglobaaDoor.P
