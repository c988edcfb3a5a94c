/- pantilelaw10.few, pantileref10.Climb: the walks. -/
import Derived.Test.YtoeibcdnhglobaaDoorH3
namespace Go.Proofs.YtoeibcdnhglobaaDoor.P
set_option linter.unusedVariables false
set_option linter.unusedSimpArgs false
open Go.RowKit Go.Shelf Go.Proofs.YtoeibcdnhglobaaDoorW.PrintWords Go.Proofs.YtoeibcdnhglobaaDoorW.PrintLast Go.Proofs.YtoeibcdnhglobaaDoorW.PrintMore
open Go.Proofs.YtoeibcdnhglobaaDoor.Pure

/-- A text of 40 bytes at the most. -/
def cut40 (s : ByteArray) : ByteArray := if 40 < s.size then s.extract 0 40 else s
theorem cut40_sz (s : ByteArray) : (cut40 s).size ≤ 40 := by
  unfold cut40
  split
  · rw [ByteArray.size_extract]; omega
  · omega
def fewR (l : List ByteArray) : List ByteArray := (l.take 30).map cut40
theorem fewR_len (l : List ByteArray) : (fewR l).length = min 30 l.length := by simp [fewR]
theorem fewR_sz (l : List ByteArray) : ∀ s ∈ fewR l, s.size ≤ 40 := by
  intro s hs
  obtain ⟨p, _, rfl⟩ := List.mem_map.1 hs
  exact cut40_sz p
theorem fewR_snoc (l : List ByteArray) (i : Nat) (h1 : i < l.length) (h2 : i < 30) : (fewR l).take i ++ [cut40 l[i]] = (fewR l).take (i + 1) := by
  have hl : i < (fewR l).length := by rw [fewR_len]; omega
  rw [List.take_succ_eq_append_getElem hl]
  simp [fewR]
set_option maxRecDepth 100000 in
set_option maxHeartbeats 8000000 in
theorem few_calls (A : Option Addr) (c : Nat) (l : List ByteArray) (w : World) (hr : ReadsOf Value.string ByteArray.empty w A l.length l) :
    Calls Tryd.prog 51 #[.slice A l.length c] w fun e w' => ∃ v, e = .returned v ∧ w'.ownsRow w.heap.size 9 1 v (fewR l).length (encs Value.string (fewR l)) ∧ Below w.heap.size w w' := by
  obtain ⟨n0, hn0⟩ : ∃ n0, w.heap.size = n0 := ⟨_, rfl⟩
  have hown0 : w.ownsRow n0 9 1 (.slice none 0 0) ((fewR l).take 0).length (encs Value.string ((fewR l).take 0)) := by simpa [encs] using own_nil w n0 9 1
  have hbl0 : Below n0 w w := hn0 ▸ Below.refl _ _
  have hbig : (l.length : Int) ≤ 9223372036854775807 := by have := hr.2.1; omega
  have HP := Lib.hid hr
  have HN := Lib.hid hn0
  rw [hn0]
  clear hr hn0
  go_enter Tryd.func51, Tryd.ntmps51
  go_wp2
  go_loopw [3, 4, 5] (fun v3 v4 v5 wr => ∃ i : Nat, v4 = .int .i64 i ∧ i ≤ l.length ∧ i ≤ 30 ∧ wr.ownsRow n0 9 1 v3 ((fewR l).take i).length (encs Value.string ((fewR l).take i)) ∧ Below n0 w wr) (fun _ v4 _ _ => 30 - (intOf v4).toNat)
  case atStart => exact ⟨0, rfl, by omega, by omega, hown0, hbl0⟩
  case round =>
    clear hown0 hbl0
    obtain ⟨i, rfl, hi, him, hown, hbl⟩ := hrel
    obtain ⟨A3, c3, rfl, _⟩ := own_slc0 hown
    by_cases hlt : i < l.length
    · have hd : decide (i < l.length) = true := decide_eq_true hlt
      by_cases hlm : i < 30
      · have hd2 : decide (i < 30) = true := decide_eq_true hlm
        have hd2i : decide ((i : Int) < 30) = true := decide_eq_true (by omega)
        obtain ⟨ad, rfl, hcell⟩ := HP.out.at_ (i : Int) (by omega) (by omega)
        have hb0 : Below w.heap.size w wr := by rw [HN.out]; exact hbl
        have hcw := pw_cell_below hb0 hcell
        have hx0 : rdOf ByteArray.empty l (i : Int) = l[i] := by simp [rdOf, List.getD_eq_getElem?_getD, hlt]
        rw [Int.toNat_natCast, hx0] at hcw
        have hsn := fewR_snoc l i hlt hlm
        obtain ⟨x, hx⟩ : ∃ x, x = cut40 l[i] := ⟨_, rfl⟩
        have hcase : (decide ((40 : Int) < (l[i].size : Int)) = true ∧ x = l[i].extract 0 40 ∧ (40 : Int) ≤ (l[i].size : Int)) ∨ (decide ((40 : Int) < (l[i].size : Int)) = false ∧ x = l[i]) := by
          rw [hx]
          unfold cut40
          by_cases h4 : 40 < l[i].size
          · rw [if_pos h4]; exact .inl ⟨decide_eq_true (by omega), rfl, by omega⟩
          · rw [if_neg h4]; exact .inr ⟨decide_eq_false (by omega), rfl⟩
        rw [← hx] at hsn
        have HSN := Lib.hid hsn
        have hbs := hbl.size
        have hl16 : (((fewR l).take i).length + 1) * 16 ≤ 140737488355328 := by rw [List.length_take]; omega
        have hl0 : n0 ≤ wr.heap.size := by have := HN.out; omega
        have h1 : (i : Int) < (l.length : Int) := by omega
        generalize l[i] = pt at *
        clear hsn hx hcell hx0
        generalize (fewR l).take i = P at *
        rcases hcase with ⟨h0, rfl, g0⟩ | ⟨h0, rfl⟩
        · go_wp2_with (at_builtin; go_loud (refine print_append_of (w0 := w) Value.string n0 rfl _ _ 22 9 (.string ⟨#[]⟩) 16 rfl Tryd.underlying22 inf9 rfl (by decide) (.slice A3 P.length c3) P (pt.extract 0 40) rfl rfl rfl hown hbl hl0 hl16 ?_; intro v4 w4 hown4 hB4 _ _; rw [HSN.out] at hown4))
          exact ⟨⟨i + 1, rfl, by omega, by omega, hown4, hB4⟩, by simp only [intOf]; omega⟩
        · go_wp2_with (at_builtin; go_loud (refine print_append_of (w0 := w) Value.string n0 rfl _ _ 22 9 (.string ⟨#[]⟩) 16 rfl Tryd.underlying22 inf9 rfl (by decide) (.slice A3 P.length c3) P x rfl rfl rfl hown hbl hl0 hl16 ?_; intro v4 w4 hown4 hB4 _ _; rw [HSN.out] at hown4))
          exact ⟨⟨i + 1, rfl, by omega, by omega, hown4, hB4⟩, by simp only [intOf]; omega⟩
      · have hd2 : decide (i < 30) = false := decide_eq_false hlm
        have hd2i : decide ((i : Int) < 30) = false := decide_eq_false (by omega)
        have hL : (fewR l).take i = fewR l := List.take_of_length_le (by rw [fewR_len]; omega)
        rw [hL] at hown ⊢
        go_wp2
        go_ret
        exact ⟨_, rfl, hown, hbl⟩
    · have hd : decide (i < l.length) = false := decide_eq_false hlt
      have hL : (fewR l).take i = fewR l := List.take_of_length_le (by rw [fewR_len]; omega)
      rw [hL] at hown ⊢
      go_wp2
      go_ret
      exact ⟨_, rfl, hown, hbl⟩
theorem tkS_take (P : List ByteArray) (j : Nat) (h : 0 < j) (hj : j ≤ P.length) : tkS P j = rdOf ByteArray.empty P ((j - 1 : Nat) : Int) := by
  unfold tkS
  rw [if_neg (by omega)]
  simp [rdOf]
set_option maxRecDepth 100000 in
set_option maxHeartbeats 8000000 in
theorem RClimb_calls (leaf : ByteArray) (A : Option Addr) (P : List ByteArray) (c : Nat) (hc : P.length ≤ c) (B : Nat) (hB : B < 100000000) (hB2 : 32 ≤ B) (hleaf : leaf.size ≤ B) (hP : ∀ s ∈ P, s.size ≤ B) (hPl : P.length ≤ 1000000) (d : Nat) :
    ∀ (f n m j : Nat) (z y : Int) (w : World), ReadsOf Value.string ByteArray.empty w A P.length P → n ≤ d → n ≤ f → m < n → z = m → y = n → n ≤ 1048576 → j ≤ P.length → j = longR f m n →
    Calls Tryd.prog 54 #[.string leaf, .int .i64 z, .int .i64 y, .slice A j c] w fun e w' => e = .returned (.string (climbR leaf P f m n j)) ∧ Below w.heap.size w w' := by
  induction d with
  | zero => intro f n m j z y w hr hd hf h1; omega
  | succ d ih =>
    intro f n m j z y w hr hd hf hmn hz hy hle hj hjl
    obtain ⟨f, rfl⟩ : ∃ g, f = g + 1 := ⟨f - 1, by omega⟩
    subst hz
    subst hy
    by_cases hn1 : n ≤ 1
    · have e1 : decide ((n : Int) ≤ 1) = true := decide_eq_true (by omega)
      have ec : climbR leaf P (f + 1) m n j = leaf := by unfold climbR; rw [if_pos hn1]
      rw [ec]
      clear ec ih hr hP hjl
      go_enter Tryd.func54, Tryd.ntmps54
      go_wp2
      go_ret
      exact ⟨rfl, Below.refl _ _⟩
    · have e1 : decide ((n : Int) ≤ 1) = false := decide_eq_false (by omega)
      have hm := half_lt (n := n) (by omega)
      have kh := fun W => Half_calls n (by omega) (by omega) W
      have hnI : (n : Int) ≤ 1048576 := by omega
      have g5 : ((half n : Nat) : Int) ≤ (n : Int) := by omega
      have g6 : (0 : Int) ≤ ((half n : Nat) : Int) := by omega
      have hj1 : 0 < j := by
        rw [hjl]; unfold longR; rw [if_neg hn1]; omega
      obtain ⟨i, hi⟩ : ∃ i, i = j - 1 := ⟨_, rfl⟩
      obtain ⟨ad, rfl, hcell⟩ := hr.at_ (i : Int) (by omega) (by omega)
      have htk : rdOf ByteArray.empty P (i : Int) = tkS P j := by rw [hi]; exact (tkS_take P j hj1 hj).symm
      rw [htk, Int.toNat_natCast] at hcell
      have hxs := tkS_sz P B hP j
      have g7 : (j : Int) - 1 = (i : Int) := by omega
      have g8 : (i : Int) < (j : Int) := by omega
      have g9 : (j : Int) ≤ 1000000 := by omega
      have g10 : (i : Int) ≤ (c : Int) := by omega
      by_cases hcase : m < half n
      · have ec : climbR leaf P (f + 1) m n j = joinH (climbR leaf P f m (half n) (j - 1)) (tkS P j) := by
          show (if n ≤ 1 then leaf else _) = _
          rw [if_neg hn1, if_pos hcase]
        have el : j - 1 = longR f m (half n) := by
          rw [hjl]
          show (if n ≤ 1 then 0 else _) - 1 = _
          rw [if_neg hn1, if_pos hcase]; rfl
        have k1 := ih f (half n) m (j - 1) (m : Int) ((half n : Nat) : Int) w hr (by omega) (by omega) hcase rfl rfl (by omega) (by omega) el
        have hcs := climbR_sz leaf P B hleaf hB2 f m (half n) (j - 1)
        rw [ec]
        rw [← hi] at k1 hcs ⊢
        generalize climbR leaf P f m (half n) i = Y at *
        generalize tkS P j = X at *
        have kN := fun W => NodeR_calls Y X (by omega) W
        have d1 : decide (m < half n) = true := decide_eq_true hcase
        generalize half n = mh at *
        clear ih hP hr ec el hjl hm hn1 hd hf hxs hcs hleaf hle hj htk hi
        show Calls _ _ _ _ fun e w' => e = .returned (.string (nodeH Y X)) ∧ _
        go_enter Tryd.func54, Tryd.ntmps54
        go_wp2_with (first
          | (go_at_call 83; refine (kh _).mono ?_; rintro e w' ⟨rfl, hw'⟩; rw [hw']; clear hw' w')
          | (go_at_call 54; go_loud (with_reducible refine k1.mono ?_; rintro e w1 ⟨rfl, hb1⟩; clear k1))
          | (go_at_call 42; go_loud (refine (kN _).mono ?_; rintro e w2 ⟨rfl, hb2⟩)))
        go_ret
        exact ⟨rfl, hb1.trans (hb2.mono hb1.size)⟩
      · have ec : climbR leaf P (f + 1) m n j = joinH (tkS P j) (climbR leaf P f (m - half n) (n - half n) (j - 1)) := by
          show (if n ≤ 1 then leaf else _) = _
          rw [if_neg hn1, if_neg hcase]
        have el : j - 1 = longR f (m - half n) (n - half n) := by
          rw [hjl]
          show (if n ≤ 1 then 0 else _) - 1 = _
          rw [if_neg hn1, if_neg hcase]; rfl
        have k1 := ih f (n - half n) (m - half n) (j - 1) ((m : Int) - ((half n : Nat) : Int)) ((n : Int) - ((half n : Nat) : Int)) w hr (by omega) (by omega) (by omega) (by omega) (by omega) (by omega) (by omega) el
        have hcs := climbR_sz leaf P B hleaf hB2 f (m - half n) (n - half n) (j - 1)
        rw [ec]
        rw [← hi] at k1 hcs ⊢
        generalize climbR leaf P f (m - half n) (n - half n) i = Y at *
        generalize tkS P j = X at *
        have kN := fun W => NodeR_calls X Y (by omega) W
        have d1 : decide (m < half n) = false := decide_eq_false hcase
        have g11 : (m : Int) ≤ 1048576 := by omega
        generalize half n = mh at *
        clear ih hP hr ec el hjl hm hn1 hd hf hxs hcs hleaf hle hj htk hi
        show Calls _ _ _ _ fun e w' => e = .returned (.string (nodeH X Y)) ∧ _
        go_enter Tryd.func54, Tryd.ntmps54
        go_wp2_with (first
          | (go_at_call 83; refine (kh _).mono ?_; rintro e w' ⟨rfl, hw'⟩; rw [hw']; clear hw' w')
          | (go_at_call 54; go_loud (with_reducible refine k1.mono ?_; rintro e w1 ⟨rfl, hb1⟩; clear k1))
          | (go_at_call 42; go_loud (refine (kN _).mono ?_; rintro e w2 ⟨rfl, hb2⟩)))
        go_ret
        exact ⟨rfl, hb1.trans (hb2.mono hb1.size)⟩
/-- few of one text. -/
theorem few_one (x : ByteArray) (W : World) : Calls Tryd.prog 51 #[.slice (some ⟨W.heap.size, 0, none⟩) 1 1] (W.alloc (.cells #[.string x] 9)) fun e w' => ∃ g c, e = .returned (.slice (some ⟨g, 0, none⟩) 1 c) ∧ w'.cell? ⟨g, 0, none⟩ = some (.string (cut40 x)) ∧ Below W.heap.size W w' := by
  have hB : Below W.heap.size W (W.alloc (.cells #[.string x] 9)) := (Below.refl _ W).alloc (Nat.le_refl _) _
  have hn := heap_alloc_new W (.cells #[.string x] 9)
  have hr : ReadsOf Value.string ByteArray.empty (W.alloc (.cells #[.string x] 9)) (some ⟨W.heap.size, 0, none⟩) [x].length [x] := by
    refine ⟨rfl, by simp, fun _ => ⟨_, rfl, fun j hj => ?_⟩⟩
    have hj0 : j = 0 := by simpa using hj
    subst hj0
    rw [add_plain]
    unfold World.cell?
    simp only []
    rw [hn]
    rfl
  refine (few_calls (some ⟨W.heap.size, 0, none⟩) 1 [x] _ hr).mono ?_
  rintro e w' ⟨v, rfl, ho, hb⟩
  have ho' : w'.ownsRow (W.alloc (.cells #[.string x] 9)).heap.size 9 1 v 1 (encs Value.string [cut40 x]) := ho
  obtain ⟨g, c, rfl, _⟩ := World.ownsRow.form ho' (by omega)
  have h0 := World.ownsRow.cellAt ho' 0 (by omega)
  exact ⟨g, c, rfl, h0, hB.trans (hb.mono hB.size)⟩
set_option maxRecDepth 100000 in
set_option maxHeartbeats 8000000 in
theorem ProofChecks_calls (leaf root : ByteArray) (m n : Int) (A : Option Addr) (c : Nat) (l : List ByteArray) (w : World) (hr : ReadsOf Value.string ByteArray.empty w A l.length l) (hT : TzTab w) (hG : GlobH w) :
    Calls Tryd.prog 11 #[.string leaf, .int .i64 m, .int .i64 n, .slice A l.length c, .string root] w fun e w' => e = .returned (.bool true) ∧ Below w.heap.size w w' := by
  have kF : Calls Tryd.prog 51 #[.slice A l.length c] w fun e w' => ∃ A1 c1, e = .returned (.slice A1 (fewR l).length c1) ∧ (fewR l).length ≤ c1 ∧ ReadsOf Value.string ByteArray.empty w' A1 (fewR l).length (fewR l) ∧ Below w.heap.size w w' := by
    refine (few_calls A c l w hr).mono ?_
    rintro e w' ⟨v, rfl, ho, hb⟩
    obtain ⟨A1, c1, rfl, hc⟩ := own_slc0 ho
    exact ⟨A1, c1, rfl, hc, own_reads_of' (d := ByteArray.empty) ho, hb⟩
  have k1 := fun W => few_one leaf W
  have k2 := fun W => few_one root W
  have kL := fun (W : World) (hW : Below w.heap.size w W) => lives10_calls W (hT.below hW hT.lt) (hG.below hW)
  have hsz := fewR_sz l
  have hln := fewR_len l
  have s1 := cut40_sz leaf
  have s2 := cut40_sz root
  generalize fewR l = P at *
  generalize l.length = ln at *
  generalize cut40 leaf = leaf2 at *
  generalize cut40 root = root2 at *
  by_cases hbad : (n < 0 ∨ 1048576 < n) ∨ m < 0 ∨ n ≤ m
  · have kC := fun v W => CheckInclusion_range leaf2 root2 m n v W (by
      rcases hbad with h | h
      · exact .inl (decide_eq_false (by omega))
      · exact .inr h)
    obtain ⟨x0, e0⟩ : ∃ b, decide (n < 0) = b := ⟨_, rfl⟩
    obtain ⟨x1, e1⟩ : ∃ b, decide (1048576 < n) = b := ⟨_, rfl⟩
    obtain ⟨x2, e2⟩ : ∃ b, decide (m < 0) = b := ⟨_, rfl⟩
    obtain ⟨x3, e3⟩ : ∃ b, decide (n ≤ m) = b := ⟨_, rfl⟩
    have hx : (x0 || x1 || x2 || x3) = true := by
      rw [← e0, ← e1, ← e2, ← e3]
      simp only [Bool.or_eq_true, decide_eq_true_eq]
      omega
    clear hsz hbad hT hG hr hln s1 s2
    generalize P.length = p at *
    cases x0 <;> cases x1 <;> cases x2 <;> cases x3 <;> first | (exact absurd hx (by decide)) | skip
    all_goals
      clear hx
      go_enter Tryd.func11, Tryd.ntmps11
      go_wp2_with (first
        | (go_at_call 51; first
          | (with_reducible refine kF.mono ?_; rintro e w1 ⟨A1, c1, rfl, hc1, _, hb1⟩; clear kF)
          | (with_reducible refine (k1 _).mono ?_; rintro e w2 ⟨g2, c2, rfl, q2, hb2⟩; have hB2 := hb1.trans (hb2.mono hb1.size); clear k1)
          | (with_reducible refine (k2 _).mono ?_; rintro e w3 ⟨g3, c3, rfl, q3, hb3⟩; have hB3 := hB2.trans (hb3.mono hB2.size); clear k2))
        | (go_at_call 52; go_loud (refine (kC _ _).mono ?_; rintro e w4 ⟨rfl, hb4⟩; have hB4 := hB3.trans (hb4.mono hB3.size)))
        | (go_at_call 49; go_loud (refine (kL _ hB4).mono ?_; rintro e w5 ⟨rfl, hb5⟩)))
      go_ret
      exact ⟨rfl, hB4.trans (hb5.mono hB4.size)⟩
  · obtain ⟨m, rfl⟩ : ∃ j : Nat, m = j := ⟨m.toNat, by omega⟩
    obtain ⟨n, rfl⟩ : ∃ j : Nat, n = j := ⟨n.toNat, by omega⟩
    have e0 : decide ((n : Int) < 0) = false := decide_eq_false (by omega)
    have e1 : decide ((1048576 : Int) < (n : Int)) = false := decide_eq_false (by omega)
    have e2 : decide ((m : Int) < 0) = false := decide_eq_false (by omega)
    have e3 : decide (n ≤ m) = false := decide_eq_false (by omega)
    have kG := fun W => RLong_calls n n m n m n W (Nat.le_refl _) (Nat.le_refl _) (by omega) rfl rfl (by omega)
    have kC := fun (A : Option Addr) (c : Nat) (W : World) (hW : Below w.heap.size w W) (hr : ReadsOf Value.string ByteArray.empty W A P.length P) (hc : P.length ≤ c) => CheckInclusion_walk leaf2 root2 m n A P c W hr (by omega) hc (hG.below hW) 40 (by omega) (by omega) s1 hsz (by omega) (by omega)
    by_cases hl : P.length = longR n m n
    · have kR := fun (A : Option Addr) (c : Nat) (W : World) (hr : ReadsOf Value.string ByteArray.empty W A P.length P) (hc : P.length ≤ c) => RClimb_calls leaf2 A P c hc 40 (by omega) (by omega) s1 hsz (by omega) n n n m P.length m n W hr (Nat.le_refl _) (Nat.le_refl _) (by omega) rfl rfl (by omega) (Nat.le_refl _) hl
      rw [← hl] at kG
      have ez : (P.length != P.length) = false := by simp
      by_cases hx : climbR leaf2 P n m n P.length = root2
      · rw [if_pos ⟨hx, hl⟩] at kC
        rw [hx] at kR
        clear hsz hbad hT hG hr hln s1 s2 hl hx
        generalize P.length = p at *
        go_enter Tryd.func11, Tryd.ntmps11
        go_wp2_with (first
          | (go_at_call 51; first
            | (with_reducible refine kF.mono ?_; rintro e w1 ⟨A1, c1, rfl, hc1, r1, hb1⟩; clear kF)
            | (with_reducible refine (k1 _).mono ?_; rintro e w2 ⟨g2, c2, rfl, q2, hb2⟩; have hB2 := hb1.trans (hb2.mono hb1.size); have r2 := r1.below hb2; clear k1 r1)
            | (with_reducible refine (k2 _).mono ?_; rintro e w3 ⟨g3, c3, rfl, q3, hb3⟩; have hB3 := hB2.trans (hb3.mono hB2.size); have r3 := r2.below hb3; clear k2 r2))
          | (go_at_call 52; go_loud (refine (kC _ _ _ hB3 r3 hc1).mono ?_; rintro e w4 ⟨rfl, hb4⟩; have hB4 := hB3.trans (hb4.mono hB3.size); have r4 := r3.below hb4; clear r3))
          | (go_at_call 53; refine (kG _).mono ?_; rintro e w' ⟨rfl, hw'⟩; rw [hw']; clear hw' w')
          | (go_at_call 54; go_loud (refine (kR _ _ _ r4 hc1).mono ?_; rintro e w5 ⟨rfl, hb5⟩; have hB5 := hB4.trans (hb5.mono hB4.size)))
          | (go_at_call 49; go_loud (refine (kL _ hB5).mono ?_; rintro e w6 ⟨rfl, hb6⟩)))
        go_ret
        exact ⟨rfl, hB5.trans (hb6.mono hB5.size)⟩
      · rw [if_neg (fun h => hx h.1)] at kC
        generalize climbR leaf2 P n m n P.length = X at *
        have x9 : (X.toList == root2.toList) = false := str_ne hx
        clear hsz hbad hT hG hr hln s1 s2 hl hx
        generalize P.length = p at *
        go_enter Tryd.func11, Tryd.ntmps11
        go_wp2_with (first
          | (go_at_call 51; first
            | (with_reducible refine kF.mono ?_; rintro e w1 ⟨A1, c1, rfl, hc1, r1, hb1⟩; clear kF)
            | (with_reducible refine (k1 _).mono ?_; rintro e w2 ⟨g2, c2, rfl, q2, hb2⟩; have hB2 := hb1.trans (hb2.mono hb1.size); have r2 := r1.below hb2; clear k1 r1)
            | (with_reducible refine (k2 _).mono ?_; rintro e w3 ⟨g3, c3, rfl, q3, hb3⟩; have hB3 := hB2.trans (hb3.mono hB2.size); have r3 := r2.below hb3; clear k2 r2))
          | (go_at_call 52; go_loud (refine (kC _ _ _ hB3 r3 hc1).mono ?_; rintro e w4 ⟨rfl, hb4⟩; have hB4 := hB3.trans (hb4.mono hB3.size); have r4 := r3.below hb4; clear r3))
          | (go_at_call 53; refine (kG _).mono ?_; rintro e w' ⟨rfl, hw'⟩; rw [hw']; clear hw' w')
          | (go_at_call 54; go_loud (refine (kR _ _ _ r4 hc1).mono ?_; rintro e w5 ⟨rfl, hb5⟩; have hB5 := hB4.trans (hb5.mono hB4.size)))
          | (go_at_call 49; go_loud (refine (kL _ hB5).mono ?_; rintro e w6 ⟨rfl, hb6⟩)))
        go_ret
        exact ⟨rfl, hB5.trans (hb6.mono hB5.size)⟩
    · rw [if_neg (fun h => hl h.2)] at kC
      generalize longR n m n = K at *
      have x8 : (P.length != K) = true := bne_iff_ne.2 hl
      have x9 : ((P.length : Int) != (K : Int)) = true := bne_iff_ne.2 (by omega)
      clear hsz hbad hT hG hr hln s1 s2 hl
      generalize P.length = p at *
      go_enter Tryd.func11, Tryd.ntmps11
      go_wp2_with (first
        | (go_at_call 51; first
          | (with_reducible refine kF.mono ?_; rintro e w1 ⟨A1, c1, rfl, hc1, r1, hb1⟩; clear kF)
          | (with_reducible refine (k1 _).mono ?_; rintro e w2 ⟨g2, c2, rfl, q2, hb2⟩; have hB2 := hb1.trans (hb2.mono hb1.size); have r2 := r1.below hb2; clear k1 r1)
          | (with_reducible refine (k2 _).mono ?_; rintro e w3 ⟨g3, c3, rfl, q3, hb3⟩; have hB3 := hB2.trans (hb3.mono hB2.size); have r3 := r2.below hb3; clear k2 r2))
        | (go_at_call 52; go_loud (refine (kC _ _ _ hB3 r3 hc1).mono ?_; rintro e w4 ⟨rfl, hb4⟩; have hB4 := hB3.trans (hb4.mono hB3.size)))
        | (go_at_call 53; refine (kG _).mono ?_; rintro e w' ⟨rfl, hw'⟩; rw [hw']; clear hw' w')
        | (go_at_call 49; go_loud (refine (kL _ hB4).mono ?_; rintro e w6 ⟨rfl, hb6⟩)))
      go_ret
      exact ⟨rfl, hB4.trans (hb6.mono hB4.size)⟩
end Go.Proofs.YtoeibcdnhglobaaDoor.P
