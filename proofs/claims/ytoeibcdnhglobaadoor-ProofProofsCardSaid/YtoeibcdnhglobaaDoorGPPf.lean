/- pantilelaw10.ProofProofs: the walk. -/
import Derived.Test.YtoeibcdnhglobaaDoorGPRef
namespace Go.Proofs.YtoeibcdnhglobaaDoor.P
set_option linter.unusedVariables false
set_option linter.unusedSimpArgs false
open Go.RowKit Go.Shelf Go.Proofs.YtoeibcdnhglobaaDoorW.PrintWords Go.Proofs.YtoeibcdnhglobaaDoorW.PrintLast Go.Proofs.YtoeibcdnhglobaaDoorW.PrintMore
open Go.Proofs.YtoeibcdnhglobaaDoor.Pure

set_option maxRecDepth 100000 in
set_option maxHeartbeats 8000000 in
theorem ProofProofs_calls (A : Option Addr) (c : Nat) (ps : List Part) (m n : Int) (w : World) (h : Leaves w A ps) (hT : TzTab w) (hG : GlobH w) :
    Calls Tryd.prog 9 #[.slice A ps.length c, .int .i64 m, .int .i64 n] w fun e w' => e = .returned (.bool true) ∧ Below w.heap.size w w' := by
  have kH : Calls Tryd.prog 46 #[.slice A ps.length c, .int .i64 20] w _ := hashes_of A c ps 20 (by omega) w h
  have hlen := hash10_len ps 20
  have hsz := hash10_sz ps 20
  generalize hash10 ps 20 = L at *
  have kO := fun (A : Option Addr) (c : Nat) (W : World) (hs : StrRow W A L) (hW : Below w.heap.size w W) => of_row A c L W hs (by omega) hsz (hG.below hW)
  have kL := fun (W : World) (hW : Below w.heap.size w W) => lives10_calls W (hT.below hW hT.lt) (hG.below hW)
  have hNb : L.length ≤ 20 := by omega
  have hNbI : (L.length : Int) ≤ 20 := by omega
  have x0 : ((0 : Int) == 0) = true := rfl
  by_cases hz : 0 ≤ n ∧ n ≤ 1048576
  · obtain ⟨k, hk, hcase⟩ : ∃ k : Nat, k ≤ L.length ∧ ((decide ((L.length : Int) < n) = true ∧ k = L.length) ∨ (decide ((L.length : Int) < n) = false ∧ n = k)) := by
      by_cases hl : (L.length : Int) < n
      · exact ⟨L.length, Nat.le_refl _, .inl ⟨decide_eq_true hl, rfl⟩⟩
      · exact ⟨n.toNat, by omega, .inr ⟨decide_eq_false hl, by omega⟩⟩
    have b0 : decide ((k : Int) < 0) = false := decide_eq_false (by omega)
    have b1 : decide ((1048576 : Int) < (k : Int)) = false := decide_eq_false (by omega)
    have b2 : decide (n ≤ 1048576) = true := decide_eq_true hz.2
    have hkI : (k : Int) ≤ (L.length : Int) := by omega
    have hkI2 : (k : Int) ≤ 20 := by omega
    by_cases hbad : m < 0 ∨ (k : Int) < m
    · have kC := fun (A : Option Addr) (K c : Nat) (W : World) (s : SrcAt W A K L) => Consistency_range (.iface 112 (.slice A K c)) m k W (.inr hbad)
      obtain ⟨y0, e0⟩ : ∃ b, decide (m < 0) = b := ⟨_, rfl⟩
      obtain ⟨y1, e1⟩ : ∃ b, decide ((k : Int) < m) = b := ⟨_, rfl⟩
      have hx : (y0 || y1) = true := by
        rw [← e0, ← e1]
        simp only [Bool.or_eq_true, decide_eq_true_eq]
        exact hbad
      clear hsz hlen h hT hG hbad hz hNb
      generalize L.length = N at *
      cases y0 <;> cases y1 <;> first | (exact absurd hx (by decide)) | skip
      all_goals
        clear hx
        rcases hcase with ⟨e4, rfl⟩ | ⟨e4, rfl⟩
        all_goals
          go_enter Tryd.func9, Tryd.ntmps9
          go_wp2_with (first
            | (go_at_call 46; go_loud (with_reducible refine kH.mono ?_; rintro e w1 ⟨A1, c1, rfl, hc1, hs1, _, hb1⟩))
            | (go_at_call 47; go_loud (refine (kO _ _ _ hs1 hb1).mono ?_; rintro e w2 ⟨A2, K2, c2, rfl, hs2, hb2⟩; have hB := hb1.trans (hb2.mono hb1.size)))
            | (go_at_call 48; go_loud (refine (kC _ _ _ _ hs2).mono ?_; rintro e w' ⟨rfl, hw'⟩; rw [hw']; clear hw' w'))
            | (go_at_call 49; go_loud (refine (kL _ hB).mono ?_; rintro e w3 ⟨rfl, hb3⟩)))
          go_ret
          exact ⟨rfl, hB.trans (hb3.mono hB.size)⟩
    · have e0 : decide (m < 0) = false := decide_eq_false (by omega)
      have e1 : decide ((k : Int) < m) = false := decide_eq_false (by omega)
      by_cases h0 : m = 0
      · subst h0
        have kC := fun (A : Option Addr) (K c : Nat) (W : World) (s : SrcAt W A K L) => Consistency_zero (.iface 112 (.slice A K c)) k W (by omega) (by omega)
        clear hsz hlen h hT hG hbad hz hNb
        generalize L.length = N at *
        rcases hcase with ⟨e4, rfl⟩ | ⟨e4, rfl⟩
        all_goals
          go_enter Tryd.func9, Tryd.ntmps9
          go_wp2_with (first
            | (go_at_call 46; go_loud (with_reducible refine kH.mono ?_; rintro e w1 ⟨A1, c1, rfl, hc1, hs1, _, hb1⟩))
            | (go_at_call 47; go_loud (refine (kO _ _ _ hs1 hb1).mono ?_; rintro e w2 ⟨A2, K2, c2, rfl, hs2, hb2⟩; have hB := hb1.trans (hb2.mono hb1.size)))
            | (go_at_call 48; go_loud (refine (kC _ _ _ _ hs2).mono ?_; rintro e w' ⟨rfl, hw'⟩; rw [hw']; clear hw' w'))
            | (go_at_call 49; go_loud (refine (kL _ hB).mono ?_; rintro e w3 ⟨rfl, hb3⟩)))
          go_ret
          exact ⟨rfl, hB.trans (hb3.mono hB.size)⟩
      · obtain ⟨q, rfl⟩ : ∃ q : Nat, m = q := ⟨m.toNat, by omega⟩
        have h1 : 1 ≤ q := by omega
        have hqk : q ≤ k := by omega
        have e2 : ((q : Int) == 0) = false := beq_eq_false_iff_ne.2 h0
        have kC : ∀ (A : Option Addr) (K c : Nat) (W : World) (s : SrcAt W A K L), Below w.heap.size w W → Calls Tryd.prog 48 #[.iface 112 (.slice A K c), .int .i64 q, .int .i64 k] W fun e w' => ∃ A1 c1, e = .returned (.tuple #[.slice A1 (proofR L k q 0 k true).length c1, .int .i64 0]) ∧ ReadsOf Value.string ByteArray.empty w' A1 (proofR L k q 0 k true).length (proofR L k q 0 k true) ∧ Below W.heap.size W w' := fun A K c W s hW => by
          refine (Consistency_calls A K c q k L W s hsz hqk h1 hk (hT.below hW hT.lt) (hG.below hW)).mono ?_
          rintro e w' ⟨v, rfl, ho, hb⟩
          obtain ⟨A1, c1, rfl, hc⟩ := own_slc0 ho
          exact ⟨A1, c1, rfl, own_reads_of' (d := ByteArray.empty) ho, hb⟩
        obtain ⟨i9, hi9, _, hsz9, _⟩ := info_parts inf9
        have kS := fun (A1 : Option Addr) (c1 : Nat) (hc : L.length ≤ c1) => print_take_of (P := Tryd.prog) Value.string ByteArray.empty 22 9 .i64 Tryd.underlying22 hi9 hsz9 A1 c1 L (k : Int) (by omega) (by omega) hc
        simp only [Int.toNat_natCast] at kS
        have hlk : (L.take k).length = k := by rw [List.length_take]; omega
        have kP : ∀ (A : Option Addr) (c : Nat) (W : World), ReadsOf Value.string ByteArray.empty W A (L.take k).length (L.take k) → (L.take k).length ≤ c → Calls Tryd.prog 50 #[.int .i64 q, .slice A (L.take k).length c, .bool true] W fun e w' => ∃ A1 c1, e = .returned (.slice A1 (proofR L k q 0 k true).length c1) ∧ ReadsOf Value.string ByteArray.empty w' A1 (proofR L k q 0 k true).length (proofR L k q 0 k true) ∧ Below W.heap.size W w' := fun A c W hr hc => by
          have kk := RProof_calls k (L.take k) k q true (by omega) (by omega) (by omega) h1 (by omega) (fun s hm => hsz s (List.mem_of_mem_take hm)) A c W hr hc
          have ee : proofR (L.take k) k q 0 (L.take k).length true = proofR L k q 0 k true := by rw [hlk]; exact proofR_take L k k q 0 k true (by omega) h1 hqk
          rw [ee] at kk
          refine kk.mono ?_
          rintro e w' ⟨v, rfl, ho, hb⟩
          obtain ⟨A1, c1, rfl, hc⟩ := own_slc0 ho
          exact ⟨A1, c1, rfl, own_reads_of' (d := ByteArray.empty) ho, hb⟩
        have kE := fun (A0 A1 : Option Addr) (c0 c1 : Nat) (l : List ByteArray) (W : World) => Same_calls A0 A1 c0 c1 l W
        clear hsz hlen h hT hG hbad hz hNb hi9 hsz9 h0 hlk
        generalize proofR L k q 0 k true = P at *
        generalize L.take k = L2 at *
        generalize L2.length = N2 at *
        generalize L.length = N at *
        rcases hcase with ⟨e4, rfl⟩ | ⟨e4, rfl⟩
        all_goals
          go_enter Tryd.func9, Tryd.ntmps9
          go_wp2_with (first
            | (go_at_call 46; go_loud (with_reducible refine kH.mono ?_; rintro e w1 ⟨A1, c1, rfl, hc1, hs1, hd1, hb1⟩; obtain ⟨hcut, hA9, hC9⟩ := kS A1 c1 hc1; have hr9 := hA9 _ hd1; clear kS hA9 hd1))
            | (go_at_call 47; go_loud (refine (kO _ _ _ hs1 hb1).mono ?_; rintro e w2 ⟨A2, K2, c2, rfl, hs2, hb2⟩; have hB := hb1.trans (hb2.mono hb1.size); have hr10 := hr9.below hb2; clear hr9))
            | (go_at_call 48; go_loud (refine (kC _ _ _ _ hs2 hB).mono ?_; rintro e w3 ⟨A3, c3, rfl, r3, hb3⟩; have hB3 := hB.trans (hb3.mono hB.size); have hr11 := hr10.below hb3; clear hr10))
            | (go_at_call 50; go_loud (refine (kP _ _ _ hr11 hC9).mono ?_; rintro e w4 ⟨A4, c4, rfl, r4, hb4⟩; have hB4 := hB3.trans (hb4.mono hB3.size); have r3b := r3.below hb4; clear r3))
            | (go_at_call 34; go_loud (refine (kE _ _ _ _ _ _ r3b r4).mono ?_; rintro e w5 ⟨rfl, hb5⟩; have hB5 := hB4.trans (hb5.mono hB4.size)))
            | (go_at_call 49; go_loud (refine (kL _ hB5).mono ?_; rintro e w6 ⟨rfl, hb6⟩)))
          go_ret
          exact ⟨rfl, hB5.trans (hb6.mono hB5.size)⟩
  · have hzz : szB n = false := decide_eq_false hz
    have kC := fun (A : Option Addr) (K c : Nat) (W : World) (s : SrcAt W A K L) => Consistency_range (.iface 112 (.slice A K c)) m n W (.inl hzz)
    clear hsz hlen h hT hG hNb
    generalize L.length = N at *
    by_cases h0 : n < 0
    · have e0 : decide (n < 0) = true := decide_eq_true h0
      have e1 : decide ((N : Int) < n) = false := decide_eq_false (by omega)
      clear hz hzz
      go_enter Tryd.func9, Tryd.ntmps9
      go_wp2_with (first
        | (go_at_call 46; go_loud (with_reducible refine kH.mono ?_; rintro e w1 ⟨A1, c1, rfl, hc1, hs1, _, hb1⟩))
        | (go_at_call 47; go_loud (refine (kO _ _ _ hs1 hb1).mono ?_; rintro e w2 ⟨A2, K2, c2, rfl, hs2, hb2⟩; have hB := hb1.trans (hb2.mono hb1.size)))
        | (go_at_call 48; go_loud (refine (kC _ _ _ _ hs2).mono ?_; rintro e w' ⟨rfl, hw'⟩; rw [hw']; clear hw' w'))
        | (go_at_call 49; go_loud (refine (kL _ hB).mono ?_; rintro e w3 ⟨rfl, hb3⟩)))
      go_ret
      exact ⟨rfl, hB.trans (hb3.mono hB.size)⟩
    · have e0 : decide (n < 0) = false := decide_eq_false h0
      have e2 : decide (n ≤ 1048576) = false := decide_eq_false (by omega)
      have e3 : decide (1048576 < n) = true := decide_eq_true (by omega)
      have e1 : decide ((N : Int) < n) = true := decide_eq_true (by omega)
      clear hz hzz
      go_enter Tryd.func9, Tryd.ntmps9
      go_wp2_with (first
        | (go_at_call 46; go_loud (with_reducible refine kH.mono ?_; rintro e w1 ⟨A1, c1, rfl, hc1, hs1, _, hb1⟩))
        | (go_at_call 47; go_loud (refine (kO _ _ _ hs1 hb1).mono ?_; rintro e w2 ⟨A2, K2, c2, rfl, hs2, hb2⟩; have hB := hb1.trans (hb2.mono hb1.size)))
        | (go_at_call 48; go_loud (refine (kC _ _ _ _ hs2).mono ?_; rintro e w' ⟨rfl, hw'⟩; rw [hw']; clear hw' w'))
        | (go_at_call 49; go_loud (refine (kL _ hB).mono ?_; rintro e w3 ⟨rfl, hb3⟩)))
      go_ret
      exact ⟨rfl, hB.trans (hb3.mono hB.size)⟩
end Go.Proofs.YtoeibcdnhglobaaDoor.P
