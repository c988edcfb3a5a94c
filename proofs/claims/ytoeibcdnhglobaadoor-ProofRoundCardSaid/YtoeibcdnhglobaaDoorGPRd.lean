/- pantilelaw10.ProofRound: the pure law and the walk. -/
import Derived.Test.YtoeibcdnhglobaaDoorGChC
import Derived.Test.YtoeibcdnhglobaaDoorGPLg
namespace Go.Proofs.YtoeibcdnhglobaaDoor.P
set_option linter.unusedVariables false
set_option linter.unusedSimpArgs false
open Go.RowKit Go.Shelf Go.Proofs.YtoeibcdnhglobaaDoorW.PrintWords Go.Proofs.YtoeibcdnhglobaaDoorW.PrintLast Go.Proofs.YtoeibcdnhglobaaDoorW.PrintMore
open Go.Proofs.YtoeibcdnhglobaaDoor.Pure

theorem seg_one (h : List ByteArray) (a : Nat) (ha : a < h.length) : seg h a 1 = h[a] := by
  unfold seg
  rw [List.drop_eq_getElem_cons ha]
  rfl
/-- The last of a row whose beginning is known. -/
theorem tk_last (P' Q : List ByteArray) (x : ByteArray) (h : P'.take (Q.length + 1) = Q ++ [x]) (hl : Q.length + 1 ≤ P'.length) : tkS P' (Q.length + 1) = x ∧ P'.take Q.length = Q := by
  refine ⟨?_, ?_⟩
  · unfold tkS
    rw [if_neg (by omega), Nat.add_sub_cancel, List.getD_eq_getElem?_getD]
    have h1 : (P'.take (Q.length + 1))[Q.length]? = some x := by rw [h]; simp
    rw [List.getElem?_take_of_lt (Nat.lt_succ_self _)] at h1
    rw [h1]; rfl
  · have h2 := congrArg (List.take Q.length) h
    rw [List.take_take, Nat.min_eq_left (by omega), List.take_left'] at h2
    · exact h2
    · rfl
theorem climb_path (h : List ByteArray) : ∀ (f m a n : Nat) (P' : List ByteArray), n ≤ f → m < n → a + n ≤ h.length → (hj : (pathR h f m a n).length ≤ P'.length) → P'.take (pathR h f m a n).length = pathR h f m a n → (ham : a + m < h.length) →
    climbR h[a + m] P' f m n (pathR h f m a n).length = seg h a n
  | 0, m, a, n, P', hf, hm, _, _, _, _ => by omega
  | f + 1, m, a, n, P', hf, hm, hle, hj, ht, ham => by
    by_cases h1 : n ≤ 1
    · have hn : n = 1 := by omega
      have hm0 : m = 0 := by omega
      subst hn
      subst hm0
      unfold climbR
      rw [if_pos h1, seg_one h a (by omega)]
      rfl
    · have hh := half_lt (n := n) (by omega)
      have hs := seg_split h a n (by omega) hle
      by_cases hc : m < half n
      · have hp : pathR h (f + 1) m a n = pathR h f m a (half n) ++ [seg h (a + half n) (n - half n)] := by
          show (if n ≤ 1 then [] else _) = _
          rw [if_neg h1, if_pos hc]
        rw [hp] at hj ht ⊢
        rw [List.length_append, List.length_singleton] at hj ht ⊢
        obtain ⟨e1, e2⟩ := tk_last P' _ _ ht hj
        show (if n ≤ 1 then h[a + m] else _) = _
        rw [if_neg h1, if_pos hc, e1, Nat.add_sub_cancel, climb_path h f m a (half n) P' (by omega) hc (by omega) (by omega) e2 ham, hs]
      · have hp : pathR h (f + 1) m a n = pathR h f (m - half n) (a + half n) (n - half n) ++ [seg h a (half n)] := by
          show (if n ≤ 1 then [] else _) = _
          rw [if_neg h1, if_neg hc]
        rw [hp] at hj ht ⊢
        rw [List.length_append, List.length_singleton] at hj ht ⊢
        obtain ⟨e1, e2⟩ := tk_last P' _ _ ht hj
        have ea : a + half n + (m - half n) = a + m := by omega
        have ih := climb_path h f (m - half n) (a + half n) (n - half n) P' (by omega) (by omega) (by omega) (by omega) e2 (by omega)
        simp only [ea] at ih
        show (if n ≤ 1 then h[a + m] else _) = _
        rw [if_neg h1, if_neg hc, e1, Nat.add_sub_cancel, ih, hs]
theorem proofR_length (h : List ByteArray) : ∀ (f m a n : Nat) (kn : Bool), (proofR h f m a n kn).length = longP f m n kn
  | 0, _, _, _, _ => rfl
  | f + 1, m, a, n, kn => by
    unfold proofR longP
    by_cases he : m = n
    · rw [if_pos he, if_pos he]
      cases kn <;> simp
    · rw [if_neg he, if_neg he]
      by_cases hc : m ≤ half n
      · rw [if_pos hc, if_pos hc, List.length_append, proofR_length h f]; rfl
      · rw [if_neg hc, if_neg hc, List.length_append, proofR_length h f]; rfl
theorem half_between (n m : Nat) (h2 : 2 ≤ n) (h1 : half n < m) (h3 : m ≤ n) : half m = half n := by
  have h4 : n - 1 < 2 ^ (Nat.log2 (n - 1) + 1) := Nat.lt_log2_self
  have h5 : half n = 2 ^ Nat.log2 (n - 1) := rfl
  have h6 : 2 ^ (Nat.log2 (n - 1) + 1) = half n + half n := by rw [Nat.pow_succ, h5]; omega
  have e : m = 2 ^ Nat.log2 (n - 1) + (m - half n) := by omega
  rw [e, half_at (by omega) (by omega)]
  exact h5.symm
theorem con_proof (h : List ByteArray) : ∀ (f m a n : Nat) (kn : Bool) (old : ByteArray) (P' : List ByteArray), n ≤ f → 1 ≤ m → m ≤ n → a + n ≤ h.length → (kn = true → old = seg h a m) → (proofR h f m a n kn).length ≤ P'.length → P'.take (proofR h f m a n kn).length = proofR h f m a n kn →
    oldR old P' f m n (proofR h f m a n kn).length kn = seg h a m ∧ newR old P' f m n (proofR h f m a n kn).length kn = seg h a n
  | 0, m, a, n, kn, old, P', hf, h1, hm, _, _, _, _ => by omega
  | f + 1, m, a, n, kn, old, P', hf, h1, hm, hle, hk, hj, ht => by
    by_cases he : m = n
    · subst he
      cases kn with
      | true =>
        have eo := hk rfl
        refine ⟨?_, ?_⟩
        · unfold oldR; rw [if_pos rfl, if_pos rfl]; exact eo
        · unfold newR; rw [if_pos rfl, if_pos rfl]; exact eo
      | false =>
        have hp : proofR h (f + 1) m a m false = [seg h a m] := by unfold proofR; rw [if_pos rfl, if_neg (by decide)]
        rw [hp] at hj ht ⊢
        obtain ⟨e1, _⟩ := tk_last P' [] _ ht hj
        refine ⟨?_, ?_⟩
        · unfold oldR; rw [if_pos rfl, if_neg (by decide)]; exact e1
        · unfold newR; rw [if_pos rfl, if_neg (by decide)]; exact e1
    · have hh := half_lt (n := n) (by omega)
      have hs := seg_split h a n (by omega) hle
      by_cases hc : m ≤ half n
      · have hp : proofR h (f + 1) m a n kn = proofR h f m a (half n) kn ++ [seg h (a + half n) (n - half n)] := by
          show (if m = n then _ else _) = _
          rw [if_neg he, if_pos hc]
        rw [hp] at hj ht ⊢
        rw [List.length_append, List.length_singleton] at hj ht ⊢
        obtain ⟨e1, e2⟩ := tk_last P' _ _ ht hj
        obtain ⟨i1, i2⟩ := con_proof h f m a (half n) kn old P' (by omega) h1 hc (by omega) hk (by omega) e2
        refine ⟨?_, ?_⟩
        · show (if m = n then _ else _) = _
          rw [if_neg he, if_pos hc, Nat.add_sub_cancel, i1]
        · show (if m = n then _ else _) = _
          rw [if_neg he, if_pos hc, Nat.add_sub_cancel, i2, e1, hs]
      · have hp : proofR h (f + 1) m a n kn = proofR h f (m - half n) (a + half n) (n - half n) false ++ [seg h a (half n)] := by
          show (if m = n then _ else _) = _
          rw [if_neg he, if_neg hc]
        rw [hp] at hj ht ⊢
        rw [List.length_append, List.length_singleton] at hj ht ⊢
        obtain ⟨e1, e2⟩ := tk_last P' _ _ ht hj
        obtain ⟨i1, i2⟩ := con_proof h f (m - half n) (a + half n) (n - half n) false old P' (by omega) (by omega) (by omega) (by omega) (fun e => by cases e) (by omega) e2
        have hb := half_between n m (by omega) (by omega) hm
        have hsm := seg_split h a m (by omega) (by omega)
        rw [hb] at hsm
        refine ⟨?_, ?_⟩
        · show (if m = n then _ else _) = _
          rw [if_neg he, if_neg hc, Nat.add_sub_cancel, i1, e1, hsm]
        · show (if m = n then _ else _) = _
          rw [if_neg he, if_neg hc, Nat.add_sub_cancel, i2, e1, hs]
theorem proofR_sz (h : List ByteArray) (hs : ∀ s ∈ h, s.size ≤ 32) : ∀ (f m a n : Nat) (kn : Bool), ∀ s ∈ proofR h f m a n kn, s.size ≤ 32
  | 0, _, _, _, _ => by intro s hm; cases hm
  | f + 1, m, a, n, kn => by
    intro s hm
    unfold proofR at hm
    split at hm
    · split at hm
      · cases hm
      · rw [List.mem_singleton.1 hm]; exact seg_sz2 h hs _ _
    · split at hm
      · rcases List.mem_append.1 hm with hm | hm
        · exact proofR_sz h hs f _ _ _ _ s hm
        · rw [List.mem_singleton.1 hm]; exact seg_sz2 h hs _ _
      · rcases List.mem_append.1 hm with hm | hm
        · exact proofR_sz h hs f _ _ _ _ s hm
        · rw [List.mem_singleton.1 hm]; exact seg_sz2 h hs _ _
/-- What ProofRound asks at a size. -/
structure PR (w : World) (L : List ByteArray) (n2 n3 : Int) (n : Nat) : Prop where
  d2 : ∀ (W : World), Calls Tryd.prog 62 #[.int .i64 n2, .int .i64 ((n : Int) + 1)] W fun e w' => (∃ r : Nat, r ≤ n ∧ e = .returned (.int .i64 r)) ∧ w' = W
  d3 : ∀ (W : World), Calls Tryd.prog 62 #[.int .i64 n3, .int .i64 n] W fun e w' => (∃ r : Nat, r < n ∧ e = .returned (.int .i64 r)) ∧ w' = W
  root : ∀ m, m ≤ n → ∀ (A : Option Addr) (K c : Nat) (W : World), Below w.heap.size w W → SrcAt W A K L → Calls Tryd.prog 63 #[.iface 112 (.slice A K c), .int .i64 m] W fun e w' => e = .returned (.tuple #[.string (rootH (L.take m)), .int .i64 0]) ∧ Below W.heap.size W w'
  inc : ∀ i, i < n → ∃ P, (∀ (A : Option Addr) (K c : Nat) (W : World), Below w.heap.size w W → SrcAt W A K L → Calls Tryd.prog 64 #[.iface 112 (.slice A K c), .int .i64 i, .int .i64 n] W fun e w' => ∃ A1 c1, e = .returned (.tuple #[.slice A1 P.length c1, .int .i64 0]) ∧ P.length ≤ c1 ∧ ReadsOf Value.string ByteArray.empty w' A1 P.length P ∧ Below W.heap.size W w') ∧
    ∀ (A : Option Addr) (c : Nat) (W : World), Below w.heap.size w W → ReadsOf Value.string ByteArray.empty W A P.length P → P.length ≤ c → Calls Tryd.prog 52 #[.string (rdOf ByteArray.empty L (i : Int)), .int .i64 i, .int .i64 n, .slice A P.length c, .string (rootH (L.take n))] W fun e w' => e = .returned (.int .i64 0) ∧ Below W.heap.size W w'
  con : ∀ m, m ≤ n → ∃ P, (∀ (A : Option Addr) (K c : Nat) (W : World), Below w.heap.size w W → SrcAt W A K L → Calls Tryd.prog 48 #[.iface 112 (.slice A K c), .int .i64 m, .int .i64 n] W fun e w' => ∃ A1 c1, e = .returned (.tuple #[.slice A1 P.length c1, .int .i64 0]) ∧ P.length ≤ c1 ∧ ReadsOf Value.string ByteArray.empty w' A1 P.length P ∧ Below W.heap.size W w') ∧
    ∀ (A : Option Addr) (c : Nat) (W : World), Below w.heap.size w W → ReadsOf Value.string ByteArray.empty W A P.length P → P.length ≤ c → Calls Tryd.prog 58 #[.int .i64 m, .int .i64 n, .slice A P.length c, .string (rootH (L.take m)), .string (rootH (L.take n))] W fun e w' => e = .returned (.int .i64 0) ∧ Below W.heap.size W w'
theorem PR.mk' (w : World) (L : List ByteArray) (n2 n3 : Int) (b2 : -9223372036854775808 ≤ n2 ∧ n2 ≤ 9223372036854775807) (b3 : -9223372036854775808 ≤ n3 ∧ n3 ≤ 9223372036854775807) (hL : L.length ≤ 40) (hs : ∀ s ∈ L, s.size ≤ 32) (hT : TzTab w) (hG : GlobH w) (n : Nat) (h1 : 1 ≤ n) (hn : n ≤ L.length) : PR w L n2 n3 n := by
  have hroot : ∀ m, (rootH (L.take m)).size ≤ 32 := fun m => by
    by_cases h0 : (L.take m).length = 0
    · rw [List.length_eq_zero_iff.1 h0]
      unfold rootH
      simp [strOfNums, ByteArray.size, (shaN_ok []).1]
    · rw [rootH_pos _ (by omega)]; exact Tree_sz _ (fun s hm => hs s (List.mem_of_mem_take hm))
  refine ⟨fun W => ?_, fun W => ?_, fun m hm A K c W hW s => RootP_calls A K c m L W s hs (by omega) (hT.below hW hT.lt) (hG.below hW), fun i hi => ?_, fun m hm => ?_⟩
  · refine (round_calls n2 (n + 1) b2.1 b2.2 (by omega) (by omega) W).mono ?_
    rintro e w' ⟨⟨r, hr, he⟩, hw⟩
    exact ⟨⟨r, by omega, he⟩, hw⟩
  · exact round_calls n3 n b3.1 b3.2 h1 (by omega) W
  · refine ⟨pathR L n i 0 n, fun A K c W hW s => ?_, fun A c W hW hq hc => ?_⟩
    · refine (Inclusion_calls A K c i n L W s hs hi hn (hT.below hW hT.lt) (hG.below hW)).mono ?_
      rintro e w' ⟨v, rfl, ho, hb⟩
      obtain ⟨A1, c1, rfl, hc⟩ := own_slc0 ho
      exact ⟨A1, c1, rfl, hc, own_reads_of' (d := ByteArray.empty) ho, hb⟩
    · have hl : rdOf ByteArray.empty L (i : Int) = L[i] := by simp [rdOf, List.getD_eq_getElem?_getD, show i < L.length by omega]
      have hpl := pathR_length L n i 0 n
      have k := CheckInclusion_walk L[i] (rootH (L.take n)) i n A (pathR L n i 0 n) c W hq (by have := pathR_len L n i 0 n; omega) hc (hG.below hW) 32 (by omega) (Nat.le_refl _) (hs _ (List.getElem_mem _)) (pathR_sz L hs _ _ _ _) hi (by omega)
      have hcl := climb_path L n i 0 n (pathR L n i 0 n) (Nat.le_refl _) hi (by omega) (Nat.le_refl _) (List.take_length ..) (by omega)
      simp only [Nat.zero_add] at hcl
      rw [if_pos ⟨hcl.trans (seg_root L n h1 hn), hpl⟩] at k
      rw [hl]
      exact k
  · by_cases h0 : m = 0
    · subst h0
      refine ⟨[], fun A K c W hW s => ?_, fun A c W hW hq hc => ?_⟩
      · refine (Consistency_zero (.iface 112 (.slice A K c)) n W (by omega) (by omega)).mono ?_
        rintro e w' ⟨rfl, rfl⟩
        exact ⟨none, 0, rfl, Nat.le_refl _, rd_nil _, Below.refl _ _⟩
      · exact CheckConsistency_zero (rootH (L.take 0)) (rootH (L.take n)) n A 0 c W (by omega)
    · refine ⟨proofR L n m 0 n true, fun A K c W hW s => ?_, fun A c W hW hq hc => ?_⟩
      · refine (Consistency_calls A K c m n L W s hs hm (by omega) hn (hT.below hW hT.lt) (hG.below hW)).mono ?_
        rintro e w' ⟨v, rfl, ho, hb⟩
        obtain ⟨A1, c1, rfl, hc⟩ := own_slc0 ho
        exact ⟨A1, c1, rfl, hc, own_reads_of' (d := ByteArray.empty) ho, hb⟩
      · have k := CheckConsistency_walk (rootH (L.take m)) (rootH (L.take n)) m n A (proofR L n m 0 n true) c W hq (by have := proofR_len L n m 0 n true; omega) hc (hG.below hW) 32 (by omega) (Nat.le_refl _) (hroot m) (proofR_sz L hs _ _ _ _ _) (by omega) hm (by omega)
        have e1 := seg_root L m (by omega) (by omega)
        have hcp := con_proof L n m 0 n true (rootH (L.take m)) (proofR L n m 0 n true) (Nat.le_refl _) (by omega) hm (by omega) (fun _ => e1.symm) (Nat.le_refl _) (List.take_length ..)
        rw [if_pos ⟨⟨hcp.1.trans e1, hcp.2.trans (seg_root L n h1 hn)⟩, proofR_length L n m 0 n true⟩] at k
        exact k
set_option maxRecDepth 100000 in
set_option maxHeartbeats 8000000 in
theorem ProofRound_calls (A : Option Addr) (c : Nat) (ps : List Part) (n1 n2 n3 : Int) (w : World) (h : Leaves w A ps) (hT : TzTab w) (hG : GlobH w) (b1 : -9223372036854775808 ≤ n1 ∧ n1 ≤ 9223372036854775807) (b2 : -9223372036854775808 ≤ n2 ∧ n2 ≤ 9223372036854775807) (b3 : -9223372036854775808 ≤ n3 ∧ n3 ≤ 9223372036854775807) :
    Calls Tryd.prog 16 #[.slice A ps.length c, .int .i64 n1, .int .i64 n2, .int .i64 n3] w fun e w' => e = .returned (.bool true) ∧ Below w.heap.size w w' := by
  have kH : Calls Tryd.prog 46 #[.slice A ps.length c, .int .i64 40] w _ := hashes_of A c ps 40 (by omega) w h
  have hlen := hash10_len ps 40
  have hsz := hash10_sz ps 40
  generalize hash10 ps 40 = L at *
  have hn40 : L.length ≤ 40 := by omega
  have kO := fun (A : Option Addr) (c : Nat) (W : World) (hs : StrRow W A L) (hW : Below w.heap.size w W) => of_row A c L W hs (by omega) hsz (hG.below hW)
  have kL := fun (W : World) (hW : Below w.heap.size w W) => lives10_calls W (hT.below hW hT.lt) (hG.below hW)
  by_cases h0 : L.length = 0
  · generalize L.length = N at *
    subst h0
    clear hsz hlen h hT hG kO b1 b2 b3
    go_enter Tryd.func16, Tryd.ntmps16
    go_wp2_with (first
      | (go_at_call 46; go_loud (with_reducible refine kH.mono ?_; rintro e w1 ⟨A1, c1, rfl, hc1, hs1, _, hb1⟩))
      | (go_at_call 49; go_loud (refine (kL _ hb1).mono ?_; rintro e w3 ⟨rfl, hb3⟩)))
    go_ret
    exact ⟨rfl, hb1.trans (hb3.mono hb1.size)⟩
  · have kD := fun (W : World) => round_calls n1 L.length b1.1 b1.2 (by omega) (by omega) W
    have e0 : (L.length == 0) = false := beq_eq_false_iff_ne.2 h0
    have e0i : ((L.length : Int) == 0) = false := beq_eq_false_iff_ne.2 (by omega)
    have kP : ∀ r, r < L.length → ∃ n, Hid (n = r + 1) ∧ (1 : Int) + (r : Int) = (n : Int) ∧ (n : Int) ≤ 40 ∧ (r : Int) < 40 ∧ Hid (PR w L n2 n3 n) := fun r hr => ⟨r + 1, Lib.hid rfl, by omega, by omega, by omega, Lib.hid (PR.mk' w L n2 n3 b2 b3 hn40 hsz hT hG (r + 1) (by omega) (by omega))⟩
    have kA : ∀ (ad : Option Addr) (W : World), ReadsOf Value.string ByteArray.empty W ad L.length L → ∀ r, r < L.length → ∃ a, ad = some a ∧ W.cell? (a.add r) = some (.string (rdOf ByteArray.empty L (r : Int))) := fun ad W hrd r hr => by
      obtain ⟨a, e, hc⟩ := hrd.at_ (r : Int) (by omega) (by omega)
      exact ⟨a, e, by rw [Int.toNat_natCast] at hc; exact hc⟩
    clear hsz hlen h hT hG b1 b2 b3 hn40 h0
    generalize L.length = N at *
    go_enter Tryd.func16, Tryd.ntmps16
    go_wp2_with (first
      | (go_at_call 46; go_loud (with_reducible refine kH.mono ?_; rintro e w1 ⟨A1, c1, rfl, hc1, hs1, hd1, hb1⟩))
      | (go_at_call 47; go_loud (refine (kO _ _ _ hs1 hb1).mono ?_; rintro e w2 ⟨A2, K2, c2, rfl, hs2, hb2⟩; have hB := hb1.trans (hb2.mono hb1.size); have hd2 := hd1.below hb2; clear hs1 hd1 kO))
      | (go_at_call 62; first
        | (with_reducible refine (kD _).mono ?_; rintro e w' ⟨⟨r, hr, rfl⟩, hw'⟩; rw [hw']; clear hw' w'; obtain ⟨n, HN, hn1, hn2, hr2, PRH⟩ := kP r hr; have kD2 := PRH.out.d2; have kD3 := PRH.out.d3; clear kD kP)
        | (with_reducible refine (kD2 _).mono ?_; rintro e w' ⟨⟨m, hm, rfl⟩, hw'⟩; rw [hw']; clear hw' w'; obtain ⟨Q, kC, kK⟩ := PRH.out.con m hm; have kR := PRH.out.root n (Nat.le_refl _); have kR2 := PRH.out.root m hm; have HM := Lib.hid hm; clear kD2 hm)
        | (with_reducible refine (kD3 _).mono ?_; rintro e w' ⟨⟨i, hi, rfl⟩, hw'⟩; rw [hw']; clear hw' w'; obtain ⟨P, kI, kJ⟩ := PRH.out.inc i hi; have hiN : i < N := (by have := HN.out; omega); obtain ⟨ad, rfl, hcell⟩ := kA _ _ hd2 i hiN; have hiI : (i : Int) < (N : Int) := Int.ofNat_lt.2 hiN; generalize rdOf ByteArray.empty L (i : Int) = leaf at *; generalize rootH (L.take n) = RN at *; generalize rootH (L.take m) = RM at *; clear kD3 kA hd2 hi))
      | (go_at_call 63; first
        | (with_reducible refine (kR _ _ _ _ hB hs2).mono ?_; rintro e w3 ⟨rfl, hb3⟩; have hB3 := hB.trans (hb3.mono hB.size); have hs3 := hs2.below hb3; have hcell3 := pw_cell_below hb3 hcell; clear hs2 hcell kR)
        | (with_reducible refine (kR2 _ _ _ _ hB3 hs3).mono ?_; rintro e w4 ⟨rfl, hb4⟩; have hB4 := hB3.trans (hb4.mono hB3.size); have hs4 := hs3.below hb4; have hcell4 := pw_cell_below hb4 hcell3; clear hs3 hcell3 kR2))
      | (go_at_call 64; go_loud (refine (kI _ _ _ _ hB4 hs4).mono ?_; rintro e w5 ⟨A5, c5, rfl, hc5, r5, hb5⟩; have hB5 := hB4.trans (hb5.mono hB4.size); have hs5 := hs4.below hb5; have hcell5 := pw_cell_below hb5 hcell4; clear hs4 hcell4 kI))
      | (go_at_call 48; go_loud (refine (kC _ _ _ _ hB5 hs5).mono ?_; rintro e w6 ⟨A6, c6, rfl, hc6, r6, hb6⟩; have hB6 := hB5.trans (hb6.mono hB5.size); have hcell6 := pw_cell_below hb6 hcell5; have r5b := r5.below hb6; clear hs5 hcell5 kC r5))
      | (go_at_call 52; go_loud (refine (kJ _ _ _ hB6 r5b hc5).mono ?_; rintro e w7 ⟨rfl, hb7⟩; have hB7 := hB6.trans (hb7.mono hB6.size); have r6b := r6.below hb7; clear kJ r6 r5b))
      | (go_at_call 58; go_loud (refine (kK _ _ _ hB7 r6b hc6).mono ?_; rintro e w8 ⟨rfl, hb8⟩; have hB8 := hB7.trans (hb8.mono hB7.size); clear kK r6b))
      | (go_at_call 49; go_loud (refine (kL _ hB8).mono ?_; rintro e w9 ⟨rfl, hb9⟩)))
    go_ret
    exact ⟨rfl, hB8.trans (hb9.mono hB8.size)⟩
end Go.Proofs.YtoeibcdnhglobaaDoor.P
