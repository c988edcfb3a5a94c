/- pantileref10.Proof: the walk. -/
import Derived.Test.YtoeibcdnhglobaaDoorH2
namespace Go.Proofs.YtoeibcdnhglobaaDoor.P
set_option linter.unusedVariables false
set_option linter.unusedSimpArgs false
open Go.RowKit Go.Shelf Go.Proofs.YtoeibcdnhglobaaDoorW.PrintWords Go.Proofs.YtoeibcdnhglobaaDoorW.PrintLast Go.Proofs.YtoeibcdnhglobaaDoorW.PrintMore
open Go.Proofs.YtoeibcdnhglobaaDoor.Pure

theorem seg_drop (h : List ByteArray) (k a n : Nat) : seg (h.drop k) a n = seg h (k + a) n := by
  unfold seg
  rw [List.drop_drop]
theorem proofR_drop (h : List ByteArray) (k : Nat) : ∀ (f m a n : Nat) (kn : Bool), proofR (h.drop k) f m a n kn = proofR h f m (k + a) n kn
  | 0, _, _, _, _ => rfl
  | f + 1, m, a, n, kn => by
    unfold proofR
    rw [seg_drop, proofR_drop h k f m a (half n) kn, proofR_drop h k f (m - half n) (a + half n) (n - half n) false, seg_drop, seg_drop, Nat.add_assoc]
theorem seg_all (l : List ByteArray) (h : 1 ≤ l.length) : rootH l = seg l 0 l.length := by
  rw [seg_root l l.length h (Nat.le_refl _), List.take_length]
set_option maxRecDepth 100000 in
set_option maxHeartbeats 8000000 in
theorem RProof_calls (d : Nat) : ∀ (l : List ByteArray) (f m : Nat) (kn : Bool) (hd : l.length ≤ d) (hf : l.length ≤ f) (hm : f ≤ 1000000) (h1 : 1 ≤ m) (hml : m ≤ l.length) (hs : ∀ s ∈ l, s.size ≤ 32) (A : Option Addr) (c : Nat) (w : World) (hr : ReadsOf Value.string ByteArray.empty w A l.length l) (hc : l.length ≤ c),
    Calls Tryd.prog 50 #[.int .i64 m, .slice A l.length c, .bool kn] w fun e w' => ∃ v, e = .returned v ∧ w'.ownsRow w.heap.size 9 1 v (proofR l f m 0 l.length kn).length (encs Value.string (proofR l f m 0 l.length kn)) ∧ Below w.heap.size w w' := by
  induction d with
  | zero => intro l f m kn hd hf hm h1 hml; omega
  | succ d ih =>
    intro l f m kn hd hf hm h1 hml hs A c w hr hc
    obtain ⟨f, rfl⟩ : ∃ g, f = g + 1 := ⟨f - 1, by omega⟩
    by_cases he : m = l.length
    · have e1 : (m == l.length) = true := beq_iff_eq.2 he
      have e1i : ((m : Int) == (l.length : Int)) = true := by rw [beq_iff_eq, he]
      cases kn with
      | true =>
        have hp : proofR l (f + 1) m 0 l.length true = [] := by unfold proofR; rw [if_pos he, if_pos rfl]
        rw [hp]
        have ho := own_nil w w.heap.size 9 1
        clear ih hp hs hr he
        generalize l.length = N at *
        go_enter Tryd.func50, Tryd.ntmps50
        go_wp2
        go_ret
        exact ⟨_, rfl, by simpa [encs] using ho, Below.refl _ _⟩
      | false =>
        have hp : proofR l (f + 1) m 0 l.length false = [rootH l] := by unfold proofR; rw [if_pos he, if_neg (by decide), seg_all l (by omega)]
        rw [hp]
        have k := RootR_calls l.length l (Nat.le_refl _) (by omega) hs A c w hr hc
        have ho := fun (W : World) (hW : Below w.heap.size w W) => own_lit_of (enc := Value.string) W w.heap.size 9 [rootH l] hW.size (by simp)
        generalize rootH l = X at *
        clear ih hp hs hr he
        generalize l.length = N at *
        go_enter Tryd.func50, Tryd.ntmps50
        go_wp2_with (go_at_call 40; with_reducible refine k.mono ?_; rintro e w1 ⟨rfl, hb1⟩)
        go_ret
        exact ⟨_, rfl, ho _ hb1, hb1.alloc hb1.size _⟩
    · have h2 : 2 ≤ l.length := by omega
      have hh := half_lt h2
      obtain ⟨i9, hi9, _, hsz9, _⟩ := info_parts inf9
      have hq : ((half l.length : Nat) : Int).toNat = half l.length := Int.toNat_natCast _
      obtain ⟨hcut1, hA1, hC1⟩ := print_take_of (P := Tryd.prog) Value.string ByteArray.empty 22 9 .i64 Tryd.underlying22 hi9 hsz9 A c l (half l.length : Nat) (by omega) (by omega) hc
      obtain ⟨A2, hcut2, hA2, hC2⟩ := print_drop_of (P := Tryd.prog) Value.string ByteArray.empty 22 9 .i64 Tryd.underlying22 hi9 hsz9 A c l (half l.length : Nat) (by omega) (by omega) hc
      have hr1 := hA1 w hr
      have hr2 := hA2 w hr
      rw [hq] at hr1 hr2 hC1 hC2 hcut1 hcut2
      have l1 : (l.take (half l.length)).length = half l.length := by rw [List.length_take]; omega
      have l2 : (l.drop (half l.length)).length = l.length - half l.length := by rw [List.length_drop]
      have hs1 : ∀ s ∈ l.take (half l.length), s.size ≤ 32 := fun s h => hs s (List.mem_of_mem_take h)
      have hs2 : ∀ s ∈ l.drop (half l.length), s.size ≤ 32 := fun s h => hs s (List.mem_of_mem_drop h)
      have r1 : rootH (l.take (half l.length)) = seg l 0 (half l.length) := (seg_root l _ (by omega) (by omega)).symm
      have r2 : rootH (l.drop (half l.length)) = seg l (half l.length) (l.length - half l.length) := by rw [seg_all _ (by omega), l2, seg_drop, Nat.add_zero]
      have e0 : (m == l.length) = false := beq_eq_false_iff_ne.2 he
      have e0i : ((m : Int) == (l.length : Int)) = false := beq_eq_false_iff_ne.2 (by omega)
      have kh := fun W => Half_calls l.length h2 (by omega) W
      by_cases hcase : m ≤ half l.length
      · have hp : proofR l (f + 1) m 0 l.length kn = proofR (l.take (half l.length)) f m 0 (l.take (half l.length)).length kn ++ [rootH (l.drop (half l.length))] := by
          rw [l1, proofR_take l (half l.length) f m 0 (half l.length) kn (by omega) h1 hcase, r2]
          show (if m = l.length then _ else _) = _
          rw [if_neg he, if_pos hcase, Nat.zero_add]
        have k1 := fun W (hW : Below w.heap.size w W) => ih (l.take (half l.length)) f m kn (by omega) (by omega) (by omega) h1 (by omega) hs1 A c W (hr1.below hW) (by omega)
        have k2 := fun W (hW : Below w.heap.size w W) => RootR_calls l.length (l.drop (half l.length)) (by omega) (by omega) hs2 A2 (c - half l.length) W (hr2.below hW) (by omega)
        have hpl := proofR_len (l.take (half l.length)) f m 0 (l.take (half l.length)).length kn
        have hl16 : ((proofR (l.take (half l.length)) f m 0 (l.take (half l.length)).length kn).length + 1) * 16 ≤ 140737488355328 := by omega
        rw [hp]
        have d1 : decide (m ≤ half l.length) = true := decide_eq_true hcase
        clear ih hp hs hr hr1 hr2 hA1 hA2 hC1 hC2 hq hi9 hsz9 hs1 hs2 r1 r2 hpl he hd hf hm l1 l2 hcase
        generalize proofR (l.take (half l.length)) f m 0 (l.take (half l.length)).length kn = P at *
        generalize rootH (l.drop (half l.length)) = X at *
        generalize (l.take (half l.length)).length = n1 at *
        generalize (l.drop (half l.length)).length = n2 at *
        have hmh : (half l.length : Int) ≤ (l.length : Int) := by omega
        generalize half l.length = mh at *
        generalize c - mh = c2v at *
        rw [List.length_append, List.length_singleton]
        generalize hnp : P.length = np at *
        go_enter Tryd.func50, Tryd.ntmps50
        go_wp2_with (go_at_call 83; refine (kh _).mono ?_; rintro e w' ⟨rfl, hw'⟩; rw [hw']; clear hw' w')
        refine start_ (n := 13) (S := fun w' => Below w.heap.size w w') (ds := [11, 12]) #[false, false, false, false, false, false, false, false, false, false, false, false, false] (by kernel_rfl) rfl rfl ((Below.refl _ w).drew) (fun hHeld => ?_)
        refine pure_ (i := 0) (N := some 22) (v := ?_) (a' := ?_) #[true, false, false, false, false, false, false, false, false, false, false, false, false] rfl rfl (by kernel_rfl) (fun _ _ _ h => h) (Or.inl ⟨by rfl, ?_⟩) ?_ ?_
        rotate_left
        · intro w'
          go_simp
          with_reducible rfl
        rotate_left
        · simp only [Act.put, List.setIfInBounds_toArray, List.set_cons_zero, List.set_cons_succ, i64_w, i32_w]
          rfl
        refine pure_ (i := 1) (N := some 23) (v := ?_) (a' := ?_) #[true, true, false, false, false, false, false, false, false, false, false, false, false] rfl rfl (by kernel_rfl) (fun _ _ _ h => h) (Or.inl ⟨by rfl, ?_⟩) ?_ ?_
        rotate_left
        · intro w'
          go_simp
          with_reducible rfl
        rotate_left
        · simp only [Act.put, List.setIfInBounds_toArray, List.set_cons_zero, List.set_cons_succ, i64_w, i32_w]
          rfl
        refine pure_ (i := 2) (N := some 24) (v := ?_) (a' := ?_) #[true, true, true, false, false, false, false, false, false, false, false, false, false] rfl rfl (by kernel_rfl) (fun _ _ _ h => h) (Or.inl ⟨by rfl, ?_⟩) ?_ ?_
        rotate_left
        · intro w'
          go_simp
          with_reducible rfl
        rotate_left
        · simp only [Act.put, List.setIfInBounds_toArray, List.set_cons_zero, List.set_cons_succ, i64_w, i32_w]
          rfl
        refine pure_ (i := 3) (N := some 25) (v := ?_) (a' := ?_) #[true, true, true, true, false, false, false, false, false, false, false, false, false] rfl rfl (by kernel_rfl) (fun _ _ _ h => h) (Or.inl ⟨by rfl, ?_⟩) ?_ ?_
        rotate_left
        · intro w'
          go_simp
          with_reducible rfl
        rotate_left
        · simp only [Act.put, List.setIfInBounds_toArray, List.set_cons_zero, List.set_cons_succ, i64_w, i32_w]
          rfl
        refine pure_ (i := 4) (N := some 26) (v := ?_) (a' := ?_) #[true, true, true, true, true, false, false, false, false, false, false, false, false] rfl rfl (by kernel_rfl) (fun _ _ _ h => h) (Or.inl ⟨by rfl, ?_⟩) ?_ ?_
        rotate_left
        · intro w'
          go_simp
          with_reducible rfl
        rotate_left
        · simp only [Act.put, List.setIfInBounds_toArray, List.set_cons_zero, List.set_cons_succ, i64_w, i32_w]
          rfl
        refine pure_ (i := 6) (N := some 28) (v := ?_) (a' := ?_) #[true, true, true, true, true, false, true, false, false, false, false, false, false] rfl rfl (by kernel_rfl) (fun _ _ _ h => h) (Or.inl ⟨by rfl, ?_⟩) ?_ ?_
        rotate_left
        · intro w'
          go_simp
          with_reducible rfl
        rotate_left
        · simp only [Act.put, List.setIfInBounds_toArray, List.set_cons_zero, List.set_cons_succ, i64_w, i32_w]
          rfl
        refine pure_ (i := 7) (N := some 29) (v := ?_) (a' := ?_) #[true, true, true, true, true, false, true, true, false, false, false, false, false] rfl rfl (by kernel_rfl) (fun _ _ _ h => h) (Or.inl ⟨by rfl, ?_⟩) ?_ ?_
        rotate_left
        · intro w'
          go_simp
          with_reducible rfl
        rotate_left
        · simp only [Act.put, List.setIfInBounds_toArray, List.set_cons_zero, List.set_cons_succ, i64_w, i32_w]
          rfl
        refine pure_ (i := 8) (N := some 30) (v := ?_) (a' := ?_) #[true, true, true, true, true, false, true, true, true, false, false, false, false] rfl rfl (by kernel_rfl) (fun _ _ _ h => h) (Or.inl ⟨by rfl, ?_⟩) ?_ ?_
        rotate_left
        · intro w'
          go_simp
          with_reducible rfl
        rotate_left
        · simp only [Act.put, List.setIfInBounds_toArray, List.set_cons_zero, List.set_cons_succ, i64_w, i32_w]
          rfl
        refine one_ (i := 5) (N := some 27) #[true, true, true, true, true, true, true, true, true, false, false, false, false] rfl rfl (by kernel_rfl) (by decide) (fun K hK => ?_)
        refine goes_ Tryd.func50 (by kernel_rfl) rfl #[.int .i64 m, .slice A n1 c, .bool kn] (by rfl) rfl rfl (by simp only [List.map_toArray, List.map_cons, List.map_nil]; rfl) ?_
        refine (k1 _ hHeld).mono ?_
        rintro e y1 ⟨v1, rfl, ho1, hb_y1⟩
        obtain ⟨A5, c5, rfl, _⟩ := own_slc0 ho1
        refine ⟨_, rfl, ?_⟩
        have hq_y1 := hHeld.trans (hb_y1.mono hHeld.size)
        have ho1' := own_weaken ho1 hHeld.size
        refine hK.out _ _ hq_y1 (fun hHeld => ?_)
        clear hK K ho1 hb_y1 hq_y1
        refine norm_ (a' := ?_) ?_ ?_
        rotate_left
        · show Act.put _ (some 27) _ = _
          simp only [Act.put, List.setIfInBounds_toArray, List.set_cons_zero, List.set_cons_succ, i64_w, i32_w]
          rfl
        refine one_ (i := 9) (N := some 31) #[true, true, true, true, true, true, true, true, true, true, false, false, false] rfl rfl (by kernel_rfl) (by decide) (fun K hK => ?_)
        refine goes_ Tryd.func40 (by kernel_rfl) rfl #[.slice A2 n2 c2v] (by rfl) rfl rfl (by simp only [List.map_toArray, List.map_cons, List.map_nil]; rfl) ?_
        refine (k2 _ hHeld).mono ?_
        rintro e y2 ⟨rfl, hb_y2⟩
        refine ⟨_, rfl, ?_⟩
        have hq_y2 := hHeld.trans (hb_y2.mono hHeld.size)
        have ho2 := pw_own_below ho1' hb_y2
        refine hK.out _ _ hq_y2 (fun hHeld2 => ?_)
        clear hK K ho1' hb_y2
        refine norm_ (a' := ?_) ?_ ?_
        rotate_left
        · show Act.put _ (some 31) _ = _
          simp only [Act.put, List.setIfInBounds_toArray, List.set_cons_zero, List.set_cons_succ, i64_w, i32_w]
          rfl
        refine one_ (i := 10) (N := some 32) #[true, true, true, true, true, true, true, true, true, true, true, false, false] rfl rfl (by kernel_rfl) (by decide) (fun K hK => ?_)
        refine value_ (w1 := ?_) (v := ?_) (by rfl) rfl ?_ ?_
        rotate_left 2
        · go_simp
          constructor
          · rfl
          · rfl
        refine hK.out _ _ ((hHeld2.alloc hHeld2.size _)) (fun _ => ?_)
        clear hK K
        refine norm_ (a' := ?_) ?_ ?_
        rotate_left
        · show Act.put _ (some 32) _ = _
          simp only [Act.put, List.setIfInBounds_toArray, List.set_cons_zero, List.set_cons_succ, i64_w, i32_w]
          rfl
        refine last_ (i := 11) (N := some 33) #[true, true, true, true, true, true, true, true, true, true, true, true, false] rfl rfl (by kernel_rfl) (by decide) (fun K hK => ?_)
        refine step_append_cells (W := y2) (w0 := w) w.heap.size (by rfl) (.tmp 27) (.tmp 32) 22 9 (.string ⟨#[]⟩) 1 16 rfl Tryd.underlying22 inf9 rfl (by decide) (by decide) (.slice A5 np c5) np (encs Value.string P) [.string X] (by rfl) (by rfl) rfl (by simp [Value.oneCell']) ho2 hq_y2 hq_y2.size hl16 ?_
        intro v6 w6 hown6 hB6 _ _
        refine hK.out _ _ ?_
        clear hK K
        refine norm_ (a' := ?_) ?_ ?_
        rotate_left
        · show Act.put _ (some 33) _ = _
          simp only [Act.put, List.setIfInBounds_toArray, List.set_cons_zero, List.set_cons_succ, i64_w, i32_w]
          rfl
        refine last_ (i := 12) (N := some 6) #[true, true, true, true, true, true, true, true, true, true, true, true, true] rfl rfl (by kernel_rfl) (by decide) (fun K hK => ?_)
        refine value_ (w1 := ?_) (v := ?_) (by rfl) rfl ?_ ?_
        rotate_left 2
        · go_simp
          constructor
          · rfl
          · rfl
        refine hK.out _ _ ?_
        clear hK K
        refine norm_ (a' := ?_) ?_ ?_
        rotate_left
        · show Act.put _ (some 6) _ = _
          simp only [Act.put, List.setIfInBounds_toArray, List.set_cons_zero, List.set_cons_succ, i64_w, i32_w]
          rfl
        refine done_ (by kernel_rfl) ?_
        try simp only [calmly]
        go_wp2
        go_ret
        exact ⟨_, rfl, by simpa [encs] using hown6, hB6⟩
      · have hp : proofR l (f + 1) m 0 l.length kn = proofR (l.drop (half l.length)) f (m - half l.length) 0 (l.drop (half l.length)).length false ++ [rootH (l.take (half l.length))] := by
          rw [l2, proofR_drop, r1, Nat.add_zero]
          show (if m = l.length then _ else _) = _
          rw [if_neg he, if_neg hcase]
          simp only [Nat.zero_add, Nat.add_zero]
        have k1 := fun W (hW : Below w.heap.size w W) => ih (l.drop (half l.length)) f (m - half l.length) false (by omega) (by omega) (by omega) (by omega) (by omega) hs2 A2 (c - half l.length) W (hr2.below hW) (by omega)
        have k2 := fun W (hW : Below w.heap.size w W) => RootR_calls l.length (l.take (half l.length)) (by omega) (by omega) hs1 A c W (hr1.below hW) (by omega)
        have hpl := proofR_len (l.drop (half l.length)) f (m - half l.length) 0 (l.drop (half l.length)).length false
        have hl16 : ((proofR (l.drop (half l.length)) f (m - half l.length) 0 (l.drop (half l.length)).length false).length + 1) * 16 ≤ 140737488355328 := by omega
        rw [hp]
        have d1 : decide (m ≤ half l.length) = false := decide_eq_false hcase
        obtain ⟨q, hqe⟩ : ∃ q, q = m - half l.length := ⟨_, rfl⟩
        have hsb : (m : Int) - ((half l.length : Nat) : Int) = (q : Int) := by omega
        have hwq : IntKind.i64.wrap (q : Int) = (q : Int) := by rw [IntKind.wrap_i64]; omega
        have hqI : (q : Int) ≤ 1000000 := by omega
        rw [← hqe]
        rw [← hqe] at k1 hl16
        clear hqe
        have hmI : (m : Int) ≤ 1000000 := by omega
        have hm0 : (0 : Int) ≤ (half l.length : Int) := by omega
        have hmc : (half l.length : Int) ≤ (m : Int) := by omega
        clear ih hp hs hr hr1 hr2 hA1 hA2 hC1 hC2 hq hi9 hsz9 hs1 hs2 r1 r2 hpl he hd hf hm l1 l2 hcase
        generalize proofR (l.drop (half l.length)) f q 0 (l.drop (half l.length)).length false = P at *
        generalize rootH (l.take (half l.length)) = X at *
        generalize (l.take (half l.length)).length = n1 at *
        generalize (l.drop (half l.length)).length = n2 at *
        have hmh : (half l.length : Int) ≤ (l.length : Int) := by omega
        generalize half l.length = mh at *
        generalize c - mh = c2v at *
        rw [List.length_append, List.length_singleton]
        generalize hnp : P.length = np at *
        go_enter Tryd.func50, Tryd.ntmps50
        go_wp2_with (go_at_call 83; refine (kh _).mono ?_; rintro e w' ⟨rfl, hw'⟩; rw [hw']; clear hw' w')
        refine start_ (n := 14) (S := fun w' => Below w.heap.size w w') (ds := [12, 13]) #[false, false, false, false, false, false, false, false, false, false, false, false, false, false] (by kernel_rfl) rfl rfl ((Below.refl _ w).drew) (fun hHeld => ?_)
        refine pure_ (i := 0) (N := some 34) (v := ?_) (a' := ?_) #[true, false, false, false, false, false, false, false, false, false, false, false, false, false] rfl rfl (by kernel_rfl) (fun _ _ _ h => h) (Or.inl ⟨by rfl, ?_⟩) ?_ ?_
        rotate_left
        · intro w'
          go_simp
          with_reducible rfl
        rotate_left
        · simp only [Act.put, List.setIfInBounds_toArray, List.set_cons_zero, List.set_cons_succ, i64_w, i32_w]
          rfl
        refine pure_ (i := 1) (N := some 35) (v := ?_) (a' := ?_) #[true, true, false, false, false, false, false, false, false, false, false, false, false, false] rfl rfl (by kernel_rfl) (fun _ _ _ h => h) (Or.inl ⟨by rfl, ?_⟩) ?_ ?_
        rotate_left
        · intro w'
          go_simp
          with_reducible rfl
        rotate_left
        · simp only [Act.put, List.setIfInBounds_toArray, List.set_cons_zero, List.set_cons_succ, i64_w, i32_w]
          rfl
        refine pure_ (i := 2) (N := some 36) (v := ?_) (a' := ?_) #[true, true, true, false, false, false, false, false, false, false, false, false, false, false] rfl rfl (by kernel_rfl) (fun _ _ _ h => h) (Or.inl ⟨by rfl, ?_⟩) ?_ ?_
        rotate_left
        · intro w'
          go_simp
          with_reducible rfl
        rotate_left
        · simp only [Act.put, List.setIfInBounds_toArray, List.set_cons_zero, List.set_cons_succ, i64_w, i32_w]
          rfl
        refine pure_ (i := 3) (N := some 37) (v := ?_) (a' := ?_) #[true, true, true, true, false, false, false, false, false, false, false, false, false, false] rfl rfl (by kernel_rfl) (fun _ _ _ h => h) (Or.inl ⟨by rfl, ?_⟩) ?_ ?_
        rotate_left
        · intro w'
          go_simp
          with_reducible rfl
        rotate_left
        · simp only [Act.put, List.setIfInBounds_toArray, List.set_cons_zero, List.set_cons_succ, i64_w, i32_w]
          rfl
        refine pure_ (i := 4) (N := some 38) (v := ?_) (a' := ?_) #[true, true, true, true, true, false, false, false, false, false, false, false, false, false] rfl rfl (by kernel_rfl) (fun _ _ _ h => h) (Or.inl ⟨by rfl, ?_⟩) ?_ ?_
        rotate_left
        · intro w'
          go_simp
          with_reducible rfl
        rotate_left
        · simp only [Act.put, List.setIfInBounds_toArray, List.set_cons_zero, List.set_cons_succ, i64_w, i32_w]
          rfl
        refine pure_ (i := 5) (N := some 39) (v := ?_) (a' := ?_) #[true, true, true, true, true, true, false, false, false, false, false, false, false, false] rfl rfl (by kernel_rfl) (fun _ _ _ h => h) (Or.inl ⟨by rfl, ?_⟩) ?_ ?_
        rotate_left
        · intro w'
          go_simp
          with_reducible rfl
        rotate_left
        · simp only [Act.put, List.setIfInBounds_toArray, List.set_cons_zero, List.set_cons_succ, i64_w, i32_w]
          rfl
        refine pure_ (i := 7) (N := some 41) (v := ?_) (a' := ?_) #[true, true, true, true, true, true, false, true, false, false, false, false, false, false] rfl rfl (by kernel_rfl) (fun _ _ _ h => h) (Or.inl ⟨by rfl, ?_⟩) ?_ ?_
        rotate_left
        · intro w'
          go_simp
          with_reducible rfl
        rotate_left
        · simp only [Act.put, List.setIfInBounds_toArray, List.set_cons_zero, List.set_cons_succ, i64_w, i32_w]
          rfl
        refine pure_ (i := 8) (N := some 42) (v := ?_) (a' := ?_) #[true, true, true, true, true, true, false, true, true, false, false, false, false, false] rfl rfl (by kernel_rfl) (fun _ _ _ h => h) (Or.inl ⟨by rfl, ?_⟩) ?_ ?_
        rotate_left
        · intro w'
          go_simp
          with_reducible rfl
        rotate_left
        · simp only [Act.put, List.setIfInBounds_toArray, List.set_cons_zero, List.set_cons_succ, i64_w, i32_w]
          rfl
        refine pure_ (i := 9) (N := some 43) (v := ?_) (a' := ?_) #[true, true, true, true, true, true, false, true, true, true, false, false, false, false] rfl rfl (by kernel_rfl) (fun _ _ _ h => h) (Or.inl ⟨by rfl, ?_⟩) ?_ ?_
        rotate_left
        · intro w'
          go_simp
          with_reducible rfl
        rotate_left
        · simp only [Act.put, List.setIfInBounds_toArray, List.set_cons_zero, List.set_cons_succ, i64_w, i32_w]
          rfl
        refine one_ (i := 6) (N := some 40) #[true, true, true, true, true, true, true, true, true, true, false, false, false, false] rfl rfl (by kernel_rfl) (by decide) (fun K hK => ?_)
        refine goes_ Tryd.func50 (by kernel_rfl) rfl #[.int .i64 q, .slice A2 n2 c2v, .bool false] (by rfl) rfl rfl (by simp only [List.map_toArray, List.map_cons, List.map_nil]; rfl) ?_
        refine (k1 _ hHeld).mono ?_
        rintro e y1 ⟨v1, rfl, ho1, hb_y1⟩
        obtain ⟨A5, c5, rfl, _⟩ := own_slc0 ho1
        refine ⟨_, rfl, ?_⟩
        have hq_y1 := hHeld.trans (hb_y1.mono hHeld.size)
        have ho1' := own_weaken ho1 hHeld.size
        refine hK.out _ _ hq_y1 (fun hHeld => ?_)
        clear hK K ho1 hb_y1 hq_y1
        refine norm_ (a' := ?_) ?_ ?_
        rotate_left
        · show Act.put _ (some 40) _ = _
          simp only [Act.put, List.setIfInBounds_toArray, List.set_cons_zero, List.set_cons_succ, i64_w, i32_w]
          rfl
        refine one_ (i := 10) (N := some 44) #[true, true, true, true, true, true, true, true, true, true, true, false, false, false] rfl rfl (by kernel_rfl) (by decide) (fun K hK => ?_)
        refine goes_ Tryd.func40 (by kernel_rfl) rfl #[.slice A n1 c] (by rfl) rfl rfl (by simp only [List.map_toArray, List.map_cons, List.map_nil]; rfl) ?_
        refine (k2 _ hHeld).mono ?_
        rintro e y2 ⟨rfl, hb_y2⟩
        refine ⟨_, rfl, ?_⟩
        have hq_y2 := hHeld.trans (hb_y2.mono hHeld.size)
        have ho2 := pw_own_below ho1' hb_y2
        refine hK.out _ _ hq_y2 (fun hHeld2 => ?_)
        clear hK K ho1' hb_y2
        refine norm_ (a' := ?_) ?_ ?_
        rotate_left
        · show Act.put _ (some 44) _ = _
          simp only [Act.put, List.setIfInBounds_toArray, List.set_cons_zero, List.set_cons_succ, i64_w, i32_w]
          rfl
        refine one_ (i := 11) (N := some 45) #[true, true, true, true, true, true, true, true, true, true, true, true, false, false] rfl rfl (by kernel_rfl) (by decide) (fun K hK => ?_)
        refine value_ (w1 := ?_) (v := ?_) (by rfl) rfl ?_ ?_
        rotate_left 2
        · go_simp
          constructor
          · rfl
          · rfl
        refine hK.out _ _ ((hHeld2.alloc hHeld2.size _)) (fun _ => ?_)
        clear hK K
        refine norm_ (a' := ?_) ?_ ?_
        rotate_left
        · show Act.put _ (some 45) _ = _
          simp only [Act.put, List.setIfInBounds_toArray, List.set_cons_zero, List.set_cons_succ, i64_w, i32_w]
          rfl
        refine last_ (i := 12) (N := some 46) #[true, true, true, true, true, true, true, true, true, true, true, true, true, false] rfl rfl (by kernel_rfl) (by decide) (fun K hK => ?_)
        refine step_append_cells (W := y2) (w0 := w) w.heap.size (by rfl) (.tmp 40) (.tmp 45) 22 9 (.string ⟨#[]⟩) 1 16 rfl Tryd.underlying22 inf9 rfl (by decide) (by decide) (.slice A5 np c5) np (encs Value.string P) [.string X] (by rfl) (by rfl) rfl (by simp [Value.oneCell']) ho2 hq_y2 hq_y2.size hl16 ?_
        intro v6 w6 hown6 hB6 _ _
        refine hK.out _ _ ?_
        clear hK K
        refine norm_ (a' := ?_) ?_ ?_
        rotate_left
        · show Act.put _ (some 46) _ = _
          simp only [Act.put, List.setIfInBounds_toArray, List.set_cons_zero, List.set_cons_succ, i64_w, i32_w]
          rfl
        refine last_ (i := 13) (N := some 6) #[true, true, true, true, true, true, true, true, true, true, true, true, true, true] rfl rfl (by kernel_rfl) (by decide) (fun K hK => ?_)
        refine value_ (w1 := ?_) (v := ?_) (by rfl) rfl ?_ ?_
        rotate_left 2
        · go_simp
          constructor
          · rfl
          · rfl
        refine hK.out _ _ ?_
        clear hK K
        refine norm_ (a' := ?_) ?_ ?_
        rotate_left
        · show Act.put _ (some 6) _ = _
          simp only [Act.put, List.setIfInBounds_toArray, List.set_cons_zero, List.set_cons_succ, i64_w, i32_w]
          rfl
        refine done_ (by kernel_rfl) ?_
        try simp only [calmly]
        go_wp2
        go_ret
        exact ⟨_, rfl, by simpa [encs] using hown6, hB6⟩
end Go.Proofs.YtoeibcdnhglobaaDoor.P
