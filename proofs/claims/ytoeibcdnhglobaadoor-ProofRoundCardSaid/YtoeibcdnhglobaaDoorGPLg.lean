/- pantilelaw10.ProofLong: the walk. -/
import Derived.Test.YtoeibcdnhglobaaDoorH2
import Derived.Test.YtoeibcdnhglobaaDoorH3
namespace Go.Proofs.YtoeibcdnhglobaaDoor.P
set_option linter.unusedVariables false
set_option linter.unusedSimpArgs false
open Go.RowKit Go.Shelf Go.Proofs.YtoeibcdnhglobaaDoorW.PrintWords Go.Proofs.YtoeibcdnhglobaaDoorW.PrintLast Go.Proofs.YtoeibcdnhglobaaDoorW.PrintMore
open Go.Proofs.YtoeibcdnhglobaaDoor.Pure

theorem pathR_length (h : List ByteArray) : ∀ (f m a n : Nat), (pathR h f m a n).length = longR f m n
  | 0, _, _, _ => rfl
  | f + 1, m, a, n => by
    unfold pathR longR
    by_cases h1 : n ≤ 1
    · rw [if_pos h1, if_pos h1]; rfl
    · rw [if_neg h1, if_neg h1]
      by_cases hc : m < half n
      · rw [if_pos hc, if_pos hc, List.length_append, pathR_length h f]; rfl
      · rw [if_neg hc, if_neg hc, List.length_append, pathR_length h f]; rfl
theorem half_pow (n k : Nat) (h2 : 2 ≤ n) (h : n ≤ 2 ^ (k + 1)) : half n ≤ 2 ^ k ∧ n - half n ≤ 2 ^ k := by
  have h1 : Nat.log2 (n - 1) ≤ k := Nat.le_of_lt_succ ((Nat.log2_lt (by omega)).2 (by omega))
  have h3 : half n ≤ 2 ^ k := Nat.pow_le_pow_right (by omega) h1
  have h4 : n - 1 < 2 ^ (Nat.log2 (n - 1) + 1) := Nat.lt_log2_self
  have h5 : n ≤ half n + half n := by
    have : 2 ^ (Nat.log2 (n - 1) + 1) = half n + half n := by unfold half; rw [Nat.pow_succ]; omega
    omega
  exact ⟨h3, by omega⟩
theorem longR_pow : ∀ (k f m n : Nat), n ≤ 2 ^ k → longR f m n ≤ k
  | k, 0, m, n, _ => Nat.zero_le _
  | 0, f + 1, m, n, h => by
    unfold longR
    rw [if_pos (by simpa using h)]
    exact Nat.le_refl _
  | k + 1, f + 1, m, n, h => by
    unfold longR
    by_cases h1 : n ≤ 1
    · rw [if_pos h1]; omega
    · rw [if_neg h1]
      have hp := half_pow n k (by omega) h
      split
      · have := longR_pow k f m (half n) hp.1; omega
      · have := longR_pow k f (m - half n) (n - half n) hp.2; omega
theorem seg_sz2 (h : List ByteArray) (hs : ∀ s ∈ h, s.size ≤ 32) (a n : Nat) : (seg h a n).size ≤ 32 :=
  Tree_sz _ (fun s hm => hs s (List.mem_of_mem_drop (List.mem_of_mem_take hm)))
theorem pathR_sz (h : List ByteArray) (hs : ∀ s ∈ h, s.size ≤ 32) : ∀ (f m a n : Nat), ∀ s ∈ pathR h f m a n, s.size ≤ 32
  | 0, _, _, _ => by intro s hm; cases hm
  | f + 1, m, a, n => by
    intro s hm
    unfold pathR at hm
    split at hm
    · cases hm
    · split at hm
      · rcases List.mem_append.1 hm with hm | hm
        · exact pathR_sz h hs f _ _ _ s hm
        · rw [List.mem_singleton.1 hm]; exact seg_sz2 h hs _ _
      · rcases List.mem_append.1 hm with hm | hm
        · exact pathR_sz h hs f _ _ _ s hm
        · rw [List.mem_singleton.1 hm]; exact seg_sz2 h hs _ _
/-- What ProofLong asks of a leaf's place. -/
structure PL (w : World) (L : List ByteArray) (N r : Nat) (leaf root : ByteArray) (P : List ByteArray) : Prop where
  inc : ∀ (A : Option Addr) (K c : Nat) (W : World), Below w.heap.size w W → SrcAt W A K L → Calls Tryd.prog 64 #[.iface 112 (.slice A K c), .int .i64 r, .int .i64 N] W fun e w' => ∃ A1 c1, e = .returned (.tuple #[.slice A1 P.length c1, .int .i64 0]) ∧ P.length ≤ c1 ∧ ReadsOf Value.string ByteArray.empty w' A1 P.length P ∧ Below W.heap.size W w'
  long : ∀ (W : World), Calls Tryd.prog 53 #[.int .i64 r, .int .i64 N] W fun e w' => e = .returned (.int .i64 (P.length : Nat)) ∧ w' = W
  len : P.length ≤ 5
  psz : ∀ s ∈ P, s.size ≤ 32
  rsz : root.size ≤ 32
  chk : ∀ (Q : List ByteArray) (A : Option Addr) (c : Nat) (W : World), Below w.heap.size w W → ReadsOf Value.string ByteArray.empty W A Q.length Q → Q.length ≤ c → Q.length < 1000 → (∀ s ∈ Q, s.size ≤ 32) → Q.length ≠ P.length → Calls Tryd.prog 52 #[.string leaf, .int .i64 r, .int .i64 N, .slice A Q.length c, .string root] W fun e w' => e = .returned (.int .i64 9) ∧ Below W.heap.size W w'
theorem PL.mk' (w : World) (L : List ByteArray) (hn : L.length ≤ 24) (hs : ∀ s ∈ L, s.size ≤ 32) (hT : TzTab w) (hG : GlobH w) (r : Nat) (hr : r < L.length) : ∃ P, PL w L L.length r (rdOf ByteArray.empty L r) (rootH L) P := by
  have hl := pathR_length L L.length r 0 L.length
  have hroot : (rootH L).size ≤ 32 := by rw [rootH_pos _ (by omega)]; exact Tree_sz _ hs
  have hleaf : (rdOf ByteArray.empty L (r : Int)).size ≤ 32 := by
    have : rdOf ByteArray.empty L (r : Int) = L[r] := by simp [rdOf, List.getD_eq_getElem?_getD, hr]
    rw [this]; exact hs _ (List.getElem_mem _)
  refine ⟨pathR L L.length r 0 L.length, ⟨fun A K c W hW s => ?_, fun W => ?_, ?_, pathR_sz L hs _ _ _ _, hroot, fun Q A c W hW hq hc hq9 hqs hne => ?_⟩⟩
  · refine (Inclusion_calls A K c r L.length L W s hs hr (Nat.le_refl _) (hT.below hW hT.lt) (hG.below hW)).mono ?_
    rintro e w' ⟨v, rfl, ho, hb⟩
    obtain ⟨A1, c1, rfl, hc⟩ := own_slc0 ho
    exact ⟨A1, c1, rfl, hc, own_reads_of' (d := ByteArray.empty) ho, hb⟩
  · rw [hl]
    exact RLong_calls L.length L.length r L.length r L.length W (Nat.le_refl _) (Nat.le_refl _) hr rfl rfl (by omega)
  · rw [hl]
    exact longR_pow 5 _ _ _ (by omega)
  · have k := CheckInclusion_walk (rdOf ByteArray.empty L (r : Int)) (rootH L) r L.length A Q c W hq (by omega) hc (hG.below hW) 32 (by omega) (Nat.le_refl _) hleaf hqs hr (by omega)
    rw [if_neg (fun h => hne (by rw [hl]; exact h.2))] at k
    exact k
set_option maxRecDepth 100000 in
set_option maxHeartbeats 8000000 in
theorem ProofLong_calls (A : Option Addr) (c : Nat) (ps : List Part) (n1 : Int) (w : World) (h : Leaves w A ps) (hT : TzTab w) (hG : GlobH w) (w1b : -9223372036854775808 ≤ n1) (w1c : n1 ≤ 9223372036854775807) :
    Calls Tryd.prog 15 #[.slice A ps.length c, .int .i64 n1] w fun e w' => e = .returned (.bool true) ∧ Below w.heap.size w w' := by
  have kH : Calls Tryd.prog 46 #[.slice A ps.length c, .int .i64 24] w _ := hashes_of A c ps 24 (by omega) w h
  have hlen := hash10_len ps 24
  have hsz := hash10_sz ps 24
  generalize hash10 ps 24 = L at *
  have hn24 : L.length ≤ 24 := by omega
  have kO := fun (A : Option Addr) (c : Nat) (W : World) (hs : StrRow W A L) (hW : Below w.heap.size w W) => of_row A c L W hs (by omega) hsz (hG.below hW)
  have kL := fun (W : World) (hW : Below w.heap.size w W) => lives10_calls W (hT.below hW hT.lt) (hG.below hW)
  by_cases h0 : L.length = 0
  · have e0 : ((L.length : Int) == 0) = true := by rw [h0]; rfl
    generalize L.length = N at *
    subst h0
    clear hsz hlen h hT hG kO
    go_enter Tryd.func15, Tryd.ntmps15
    go_wp2_with (first
      | (go_at_call 46; go_loud (with_reducible refine kH.mono ?_; rintro e w1 ⟨A1, c1, rfl, hc1, hs1, _, hb1⟩))
      | (go_at_call 49; go_loud (refine (kL _ hb1).mono ?_; rintro e w3 ⟨rfl, hb3⟩)))
    go_ret
    exact ⟨rfl, hb1.trans (hb3.mono hb1.size)⟩
  · have kD := fun (W : World) => round_calls n1 L.length w1b w1c (by omega) (by omega) W
    have e0 : (L.length == 0) = false := beq_eq_false_iff_ne.2 h0
    have e0i : ((L.length : Int) == 0) = false := beq_eq_false_iff_ne.2 (by omega)
    have kP := fun r (hr : r < L.length) => PL.mk' w L hn24 hsz hT hG r hr
    have kR := fun (A : Option Addr) (K c : Nat) (W : World) (s : SrcAt W A K L) (hW : Below w.heap.size w W) => RootP_calls A K c L.length L W s hsz (Nat.le_refl _) (hT.below hW hT.lt) (hG.below hW)
    simp only [List.take_length] at kR
    have hNI : (L.length : Int) ≤ 24 := by omega
    have kA : ∀ (ad : Option Addr) (W : World), ReadsOf Value.string ByteArray.empty W ad L.length L → ∀ r, r < L.length → ∃ a, ad = some a ∧ W.cell? (a.add r) = some (.string (rdOf ByteArray.empty L (r : Int))) := fun ad W hrd r hr => by
      obtain ⟨a, e, hc⟩ := hrd.at_ (r : Int) (by omega) (by omega)
      exact ⟨a, e, by rw [Int.toNat_natCast] at hc; exact hc⟩
    clear hsz hlen h hT hG w1b w1c hn24 h0
    generalize rootH L = RT at *
    generalize L.length = N at *
    go_enter Tryd.func15, Tryd.ntmps15
    go_wp2_with (first
      | (go_at_call 46; go_loud (with_reducible refine kH.mono ?_; rintro e w1 ⟨A1, c1, rfl, hc1, hs1, hd1, hb1⟩))
      | (go_at_call 62; go_loud (refine (kD _).mono ?_; rintro e w' ⟨⟨r, hr, rfl⟩, hw'⟩; rw [hw']; clear hw' w'; obtain ⟨P, pl⟩ := kP r hr; obtain ⟨ad, rfl, hcell⟩ := kA _ _ hd1 r hr; have PLH := Lib.hid pl; have kI := pl.inc; have kG := pl.long; generalize rdOf ByteArray.empty L (r : Int) = leaf at *; have hrI : (r : Int) < (N : Int) := Int.ofNat_lt.2 hr; have hp5 : decide ((5 : Int) < (P.length : Int)) = false := decide_eq_false (Int.not_lt.2 (Int.ofNat_le.2 pl.len)); clear kP kA kD pl))
      | (go_at_call 47; go_loud (refine (kO _ _ _ hs1 hb1).mono ?_; rintro e w2 ⟨A2, K2, c2, rfl, hs2, hb2⟩; have hB := hb1.trans (hb2.mono hb1.size); have hcell2 := pw_cell_below hb2 hcell; clear hcell hs1 hd1 kO))
      | (go_at_call 64; go_loud (refine (kI _ _ _ _ hB hs2).mono ?_; rintro e w3 ⟨A3, c3, rfl, hc3, r3, hb3⟩; have hB3 := hB.trans (hb3.mono hB.size); have hcell3 := pw_cell_below hb3 hcell2; have hs3 := hs2.below hb3; clear hcell2 hs2 kI))
      | (go_at_call 63; go_loud (refine (kR _ _ _ _ hs3 hB3).mono ?_; rintro e w4 ⟨rfl, hb4⟩; have hB4 := hB3.trans (hb4.mono hB3.size); have hcell4 := pw_cell_below hb4 hcell3; have r4 := r3.below hb4; clear hcell3 hs3 kR r3))
      | (go_at_call 53; go_loud (refine (kG _).mono ?_; rintro e w' ⟨rfl, hw'⟩; rw [hw']; clear hw' w'))
      | (at_builtin; first
        | (refine print_append_row_of (w0 := w4) Value.string ByteArray.empty w4.heap.size rfl _ _ 22 9 (.string ⟨#[]⟩) 16 rfl Tryd.underlying22 inf9 rfl (by decide) (fun _ => rfl) (.slice none 0 0) [] P A3 P.length c3 rfl rfl (own_nil _ _ _ _) r4 (Below.refl _ _) (Nat.le_refl _) (by have := PLH.out.len; simp only [List.length_nil]; omega) ?_; intro v5 w5 hown5 hB5 _ _; simp only [List.nil_append] at hown5; obtain ⟨A5, c5, rfl, hc5⟩ := own_slc0 hown5)
        | (refine print_append_of (w0 := w4) Value.string w4.heap.size rfl _ _ 22 9 (.string ⟨#[]⟩) 16 rfl Tryd.underlying22 inf9 rfl (by decide) (.slice A5 P.length c5) P RT rfl rfl rfl hown5 hB5 hB5.size (by have := PLH.out.len; omega) ?_; intro v6 w6 hown6 hB6 _ _; have hr6 := own_slc0 hown6; obtain ⟨A6, c6, rfl, hc6⟩ := hr6; have hrd6 := own_reads_of' (d := ByteArray.empty) hown6; have hBw6 := hB4.trans (hB6.mono hB4.size); have hcell6 := pw_cell_below hB6 hcell4; have r6 := r4.below hB6; have kX := PLH.out.chk (P ++ [RT]) A6 c6 w6 hBw6 hrd6 hc6 (by have := PLH.out.len; rw [List.length_append, List.length_singleton]; omega) (by intro s hs; rcases List.mem_append.1 hs with hs | hs; (exact PLH.out.psz s hs); (rw [List.mem_singleton.1 hs]; exact PLH.out.rsz)) (by rw [List.length_append, List.length_singleton]; omega); simp only [List.length_append, List.length_singleton] at kX; clear hown5 hown6 hrd6 hcell4 r4 hB5 hc5))
      | (go_at_call 52; go_loud (refine kX.mono ?_; rintro e w7 ⟨rfl, hb7⟩; have hB7 := hBw6.trans (hb7.mono hBw6.size); have hcell7 := pw_cell_below hb7 hcell6; have r7 := r6.below hb7; clear kX hcell6 r6)))
    have kL7 := fun W (hW : Below w7.heap.size w7 W) => kL W (hB7.trans (hW.mono hB7.size))
    clear kL kG
    by_cases hp : P.length = 0
    · have eP : (P.length == 0) = true := by rw [hp]; rfl
      generalize P.length = p at *
      subst hp
      refine wp_region_below rfl (by kernel_rfl) (by kernel_rfl) ?_
      repeat (first
        | (refine wpQuietIn_goG (v := ?_) (a' := ?_) rfl (fun _ => trivial) (fun w' hC => qval ?_) rfl ?_ ?_; rotate_left; rotate_left; (have p0 := pw_cell_below hC hcell7; go_simp; with_reducible rfl); (simp only [Act.put, List.setIfInBounds_toArray, List.set_cons_zero, List.set_cons_succ, i64_w, i32_w]; rfl))
        | (refine wpQuietIn_goG (v := .bool true) (a' := ?_) rfl (fun _ => trivial) (fun w' hC => bqcall 49 #[] ?_ hC (kL7 w' hC)) rfl ?_ ?_; rotate_left; go_simp; (simp only [Act.put, List.setIfInBounds_toArray, List.set_cons_zero, List.set_cons_succ, i64_w, i32_w]; rfl))
        | (refine wpQuietIn_skipG (a' := ?_) rfl (fun _ => trivial) rfl ?_ ?_; rotate_left; (simp only [Act.put, List.setIfInBounds_toArray, List.set_cons_zero, List.set_cons_succ, i64_w, i32_w]; rfl)))
      refine wpQuietIn_nil ?_
      intro w8 hb8
      go_wp2
      go_ret
      exact ⟨rfl, hB7.trans (hb8.mono hB7.size)⟩
    · have eP : (P.length == 0) = false := beq_eq_false_iff_ne.2 hp
      have ePi : ((P.length : Int) == 0) = false := beq_eq_false_iff_ne.2 (by omega)
      have hpI : (1 : Int) ≤ (P.length : Int) := by omega
      obtain ⟨i9, hi9, _, hsz9, _⟩ := info_parts inf9
      obtain ⟨A8, hcut, hA8, hC8⟩ := print_drop_of (P := Tryd.prog) Value.string ByteArray.empty 22 9 .i64 Tryd.underlying22 hi9 hsz9 A3 c3 P 1 (by omega) hpI hc3
      have r8 := hA8 _ r7
      have kX := fun W (hW : Below w7.heap.size w7 W) => PLH.out.chk (P.drop (1 : Int).toNat) A8 _ W (hB7.trans (hW.mono hB7.size)) (r8.below hW) hC8 (by have := PLH.out.len; rw [List.length_drop]; omega) (fun s hs => PLH.out.psz s (List.mem_of_mem_drop hs)) (by rw [List.length_drop]; have : (1 : Int).toNat = 1 := rfl; omega)
      clear hA8 hC8 r8 hi9 hsz9 r7
      generalize (P.drop (1 : Int).toNat).length = p8 at *
      generalize P.length = p at *
      generalize c3 - (1 : Int).toNat = c8 at *
      refine wp_region_below rfl (by kernel_rfl) (by kernel_rfl) ?_
      repeat (first
        | (refine wpQuietIn_goG (v := ?_) (a' := ?_) rfl (fun _ => trivial) (fun w' hC => qval ?_) rfl ?_ ?_; rotate_left; rotate_left; (have p0 := pw_cell_below hC hcell7; go_simp; with_reducible rfl); (simp only [Act.put, List.setIfInBounds_toArray, List.set_cons_zero, List.set_cons_succ, i64_w, i32_w]; rfl))
        | (refine wpQuietIn_goG (v := .int .i64 9) (a' := ?_) rfl (fun _ => trivial) (fun w' hC => bqcall 52 #[.string leaf, .int .i64 r, .int .i64 N, .slice A8 p8 c8, .string RT] ?_ hC (kX w' hC)) rfl ?_ ?_; rotate_left; go_simp; (simp only [Act.put, List.setIfInBounds_toArray, List.set_cons_zero, List.set_cons_succ, i64_w, i32_w]; rfl))
        | (refine wpQuietIn_goG (v := .bool true) (a' := ?_) rfl (fun _ => trivial) (fun w' hC => bqcall 49 #[] ?_ hC (kL7 w' hC)) rfl ?_ ?_; rotate_left; go_simp; (simp only [Act.put, List.setIfInBounds_toArray, List.set_cons_zero, List.set_cons_succ, i64_w, i32_w]; rfl))
        | (refine wpQuietIn_skipG (a' := ?_) rfl (fun _ => trivial) rfl ?_ ?_; rotate_left; (simp only [Act.put, List.setIfInBounds_toArray, List.set_cons_zero, List.set_cons_succ, i64_w, i32_w]; rfl)))
      refine wpQuietIn_nil ?_
      intro w8 hb8
      go_wp2
      go_ret
      exact ⟨rfl, hB7.trans (hb8.mono hB7.size)⟩
end Go.Proofs.YtoeibcdnhglobaaDoor.P
