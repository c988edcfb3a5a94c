/- Texts of the seat, joined: what the laws of layer 15 share (pantileref15's Peaks, Grow, Same; the contracts that the laws use). -/
import Derived.Test.YtoeibcdnhglobaaDoorGNPu
import Derived.Test.YtoeibcdnhglobaaDoorGNGr
import Derived.Deep.MidRow
import Derived.Test.YtoeibcdnhglobaaDoorGNLv
import Derived.Test.YtoeibcdnhglobaaDoorGNCd
import Derived.Test.YtoeibcdnhglobaaDoorGHs10
import Derived.Test.YtoeibcdnhglobaaDoorGPOf
import Derived.Test.YtoeibcdnhglobaaDoorF4
import Derived.Test.YtoeibcdnhglobaaDoorH1
namespace Go.Proofs.YtoeibcdnhglobaaDoor.P
set_option linter.unusedVariables false
set_option linter.unusedSimpArgs false
open Go.RowKit Go.Shelf Go.Proofs.YtoeibcdnhglobaaDoorW.PrintWords Go.Proofs.YtoeibcdnhglobaaDoorW.PrintLast Go.Proofs.YtoeibcdnhglobaaDoorW.PrintMore
open Go.Proofs.YtoeibcdnhglobaaDoor.Pure

/-- The hashes made, then read as a source. -/
theorem hashes_of (A : Option Addr) (c : Nat) (ps : List Part) (most : Nat) (hmost : most ≤ 1000000) (w : World) (h : Leaves w A ps) :
    Calls Tryd.prog 46 #[.slice A ps.length c, .int .i64 most] w fun e w' => ∃ A1 c1, e = .returned (.slice A1 (hash10 ps most).length c1) ∧ (hash10 ps most).length ≤ c1 ∧ StrRow w' A1 (hash10 ps most) ∧ ReadsOf Value.string ByteArray.empty w' A1 (hash10 ps most).length (hash10 ps most) ∧ Below w.heap.size w w' := by
  refine (Hashes10_calls A c ps most hmost w h).mono ?_
  rintro e w' ⟨v, he, ho, hb⟩
  obtain ⟨A1, c1, rfl, hc1⟩ := own_slc0 ho
  exact ⟨A1, c1, he, hc1, StrRow.of_own ho, own_reads_of' (d := ByteArray.empty) ho, hb⟩
set_option maxRecDepth 100000 in
set_option maxHeartbeats 4000000 in
theorem Same_calls (A0 A1 : Option Addr) (c0 c1 : Nat) (l : List ByteArray) (w : World) (h0 : ReadsOf Value.string ByteArray.empty w A0 l.length l) (h1 : ReadsOf Value.string ByteArray.empty w A1 l.length l) :
    Calls Tryd.prog 34 #[.slice A0 l.length c0, .slice A1 l.length c1] w fun e w' => e = .returned (.bool true) ∧ Below w.heap.size w w' := by
  have hbig := h0.2.1
  go_enter Tryd.func34, Tryd.ntmps34
  go_wp2
  go_loopw [5] (fun v5 wr => ∃ (i : Nat), v5 = .int .i64 i ∧ i ≤ l.length ∧ Below w.heap.size w wr) (fun v5 _ => l.length - (intOf v5).toNat)
  case atStart => exact ⟨0, rfl, by omega, Below.refl _ _⟩
  case round =>
    obtain ⟨i, rfl, hi, hb⟩ := hrel
    by_cases hlt : i < l.length
    · obtain ⟨ad0, rfl, hcell0⟩ := h0.at_ i (by omega) (by omega)
      obtain ⟨ad1, rfl, hcell1⟩ := h1.at_ i (by omega) (by omega)
      have hd0 := (hb.cell (World.block_lt_of_cell? _ _ hcell0)).trans hcell0
      have hd1 := (hb.cell (World.block_lt_of_cell? _ _ hcell1)).trans hcell1
      rw [Int.toNat_natCast] at hd0 hd1
      generalize rdOf ByteArray.empty l (i : Int) = x at *
      have hlI : (i : Int) < (l.length : Int) := by omega
      have hdd : decide ((i : Int) < (l.length : Int)) = true := decide_eq_true hlI
      clear hcell0 hcell1 h0 h1
      go_wp2
      go_quiet (fail)
      go_wp2
      go_roundw
      case rel => exact ⟨i + 1, rfl, by omega, pw_below_drewN hb _⟩
      case measure => simp only [intOf]; omega
    · have hdd : decide ((i : Int) < (l.length : Int)) = false := decide_eq_false (by omega)
      clear h0 h1
      go_wp2
      go_ret
      exact ⟨rfl, hb⟩
theorem wf64 {n : Int} (h : (Lit.int .i64 n).wf = true) : -9223372036854775808 ≤ n ∧ n ≤ 9223372036854775807 := by
  have h2 : (decide ((-9223372036854775808 : Int) ≤ n) && decide (n ≤ 9223372036854775807)) = true := h
  rw [Bool.and_eq_true, decide_eq_true_eq, decide_eq_true_eq] at h2
  exact h2
theorem seg_take (h : List ByteArray) (N a n : Nat) (hle : a + n ≤ N) : seg (h.take N) a n = seg h a n := by
  unfold seg
  rw [List.drop_take, List.take_take, Nat.min_eq_left (by omega)]
end Go.Proofs.YtoeibcdnhglobaaDoor.P

/- What the document's Peaks and Grow of layer 15 give, by plain lists. No program in sight. -/
namespace Go.Proofs.YtoeibcdnhglobaaDoor.P
set_option linter.unusedVariables false
set_option linter.unusedSimpArgs false
open Go.RowKit Go.Shelf Go.Proofs.YtoeibcdnhglobaaDoorW.PrintWords
open Go.Proofs.YtoeibcdnhglobaaDoor.Pure

/-- The greatest whole tree first: ranges from a on, of m leaves. -/
def gr : Nat → Nat → Nat → List (Nat × Nat)
  | 0, _, _ => []
  | f + 1, a, m => if m = 0 then [] else (a, 2 ^ Nat.log2 m) :: gr f (a + 2 ^ Nat.log2 m) (m - 2 ^ Nat.log2 m)
theorem gr_all : ((List.range 64).all fun n => gr 6 0 n == hiP 6 0 n) = true := by kernel_rfl
theorem gr_hi (n : Nat) (h : n < 64) : hiP 6 0 n = gr 6 0 n :=
  (beq_iff_eq.1 (List.all_eq_true.1 gr_all n (List.mem_range.2 h))).symm
theorem gr_zero (f a : Nat) : gr f a 0 = [] := by
  cases f with
  | zero => rfl
  | succ f => exact if_pos rfl
/-- One step of the greatest first. -/
theorem gr_step (f a m j : Nat) (h0 : 0 < m) (hf : m < 2 ^ f) (h1 : 2 ^ j ≤ m) (h2 : m < 2 * 2 ^ j) : ∃ g, m - 2 ^ j < 2 ^ g ∧ gr f a m = (a, 2 ^ j) :: gr g (a + 2 ^ j) (m - 2 ^ j) := by
  have hj : Nat.log2 m = j := (Nat.log2_eq_iff (by omega)).2 ⟨h1, by rw [Nat.pow_succ]; omega⟩
  cases f with
  | zero => simp at hf; omega
  | succ g =>
    refine ⟨g, ?_, ?_⟩
    · have hjg : j ≤ g := by
        rcases Nat.lt_or_ge g j with h | h
        · have := Nat.pow_le_pow_right (n := 2) (by omega) h
          omega
        · exact h
      have := Nat.pow_le_pow_right (n := 2) (by omega) hjg
      omega
    · show (if m = 0 then [] else _) = _
      rw [if_neg (by omega), hj]
theorem hi_le_all : ((List.range 64).all fun n => (hiP 6 0 n).all fun p => decide (p.1 + p.2 ≤ n)) = true := by kernel_rfl
theorem hi_le (n : Nat) (h : n < 64) (p : Nat × Nat) (hp : p ∈ hiP 6 0 n) : p.1 + p.2 ≤ n :=
  of_decide_eq_true (List.all_eq_true.1 (List.all_eq_true.1 hi_le_all n (List.mem_range.2 h)) p hp)
theorem pkN_take (H : List ByteArray) (n : Nat) (h : n < 64) : pkN (H.take n) n = pkN H n := by
  unfold pkN
  refine List.map_congr_left fun p hp => ?_
  exact seg_take H n _ _ (hi_le n h p hp)
theorem pkN_zero (H : List ByteArray) : pkN H 0 = [] := rfl
theorem entI_take (H : List ByteArray) (n i : Nat) (hi : i < n) : ∀ f L, entI (H.take n) i f L = entI H i f L
  | 0, _ => rfl
  | f + 1, L => by
    unfold entI
    split
    · rename_i h
      have hle : 2 ^ L ≤ i + 1 := Nat.le_of_dvd (Nat.succ_pos i) (Nat.dvd_of_mod_eq_zero h)
      rw [entI_take H n i hi f, seg_take H n _ _ (by omega)]
    · rfl
theorem entA_take (H : List ByteArray) (n i : Nat) (hi : i < n) : entA (H.take n) i = entA H i := by
  unfold entA
  rw [entI_take H n i hi, seg_take H n _ _ (by omega)]
theorem grownL_take (H : List ByteArray) (n : Nat) : ∀ m, m ≤ n → grownL (H.take n) 0 m = grownL H 0 m
  | 0, _ => rfl
  | m + 1, h => by
    show grownL (H.take n) 0 m ++ entA (H.take n) (0 + m) = _
    rw [grownL_take H n m (by omega), entA_take H n _ (by omega)]
    rfl
theorem grownL_add (H : List ByteArray) (a m : Nat) : ∀ k, grownL H a (m + k) = grownL H a m ++ grownL H (a + m) k
  | 0 => by simp [grownL]
  | k + 1 => by
    show grownL H a (m + k) ++ entA H (a + (m + k)) = _ ++ (grownL H (a + m) k ++ entA H (a + m + k))
    rw [grownL_add H a m k, List.append_assoc, Nat.add_assoc]
/-- Grown in two parts, or at once. -/
theorem grown_parts (H : List ByteArray) (n : Nat) (h : n ≤ H.length) : grownL (H.take n) 0 n ++ grownL H n (H.length - n) = grownL H 0 H.length := by
  rw [grownL_take H n n (Nat.le_refl _)]
  have e := grownL_add H 0 n (H.length - n)
  rw [Nat.zero_add, Nat.add_sub_cancel' h] at e
  exact e.symm
theorem seg_at (H : List ByteArray) (a K : Nat) (h1 : 1 ≤ K) (h : a + K ≤ H.length) : rootH ((H.drop a).take K) = seg H a K := by
  rw [← seg_root (H.drop a) K h1 (by rw [List.length_drop]; omega)]
  unfold seg
  rw [List.drop_drop]
  rfl
theorem seg_mid (H : List ByteArray) (i K : Nat) (h1 : 1 ≤ K) (hK : K ≤ i) (h : i ≤ H.length) : rootH ((H.take i).drop (i - K)) = seg H (i - K) K := by
  have e : (H.take i).drop (i - K) = (H.drop (i - K)).take K := by
    rw [List.drop_take]
    congr 1
    omega
  rw [e, seg_at H (i - K) K h1 (by omega)]
end Go.Proofs.YtoeibcdnhglobaaDoor.P

/- pantileref15.Peaks and Same: the walks. -/
namespace Go.Proofs.YtoeibcdnhglobaaDoor.P
set_option linter.unusedVariables false
set_option linter.unusedSimpArgs false
open Go.RowKit Go.Shelf Go.Proofs.YtoeibcdnhglobaaDoorW.PrintWords Go.Proofs.YtoeibcdnhglobaaDoorW.PrintLast Go.Proofs.YtoeibcdnhglobaaDoorW.PrintMore
open Go.Proofs.YtoeibcdnhglobaaDoor.Pure

set_option maxRecDepth 100000 in
set_option maxHeartbeats 8000000 in
theorem RPeaks_calls (A : Option Addr) (c : Nat) (l : List ByteArray) (hN : l.length < 64) (hs : ∀ s ∈ l, s.size ≤ 32) (w : World) (hr : ReadsOf Value.string ByteArray.empty w A l.length l) (hc : l.length ≤ c) :
    Calls Tryd.prog 65 #[.slice A l.length c] w fun e w' => ∃ v, e = .returned v ∧ w'.ownsRow w.heap.size 9 1 v (pkN l l.length).length (encs Value.string (pkN l l.length)) ∧ Below w.heap.size w w' := by
  have hst := gr_hi _ hN
  have HM := Lib.hid hN
  have HS := Lib.hid hs
  have HST := Lib.hid hst
  clear hN hs hst
  go_enter Tryd.func65, Tryd.ntmps65
  go_wp2
  go_loopw [0, 3] (fun v0 v3 wr => ∃ (rest : List ByteArray) (f a : Nat) (dn : List (Nat × Nat)) (R : List ByteArray) (A2 : Option Addr) (c2 : Nat), v0 = .slice A2 rest.length c2 ∧ rest.length ≤ c2 ∧ ReadsOf Value.string ByteArray.empty w A2 rest.length rest ∧ Hid (rest = l.drop a) ∧ Hid (a + rest.length = l.length) ∧ Hid (rest.length < 2 ^ f) ∧ Hid (hiP 6 0 l.length = dn ++ gr f a rest.length) ∧ Hid (R = dn.map fun p => seg l p.1 p.2) ∧
      wr.ownsRow w.heap.size 9 1 v3 R.length (encs Value.string R) ∧ Below w.heap.size w wr)
    (fun v0 _ _ => match v0 with | .slice _ n _ => n | _ => 0)
  case atStart => exact ⟨l, 6, 0, [], [], A, c, rfl, hc, hr, Lib.hid (by simp), Lib.hid (by simp), Lib.hid HM.out, Lib.hid HST.out, Lib.hid rfl, own_nil _ _ _ _, Below.refl _ _⟩
  case round =>
    obtain ⟨rest, f, a, dn, R, A2, c2, rfl, hc2, hr2, HRS, HAR, HF, HGR, HDN, hown, hb⟩ := hrel
    by_cases h0 : 0 < rest.length
    · have hd : decide ((0 : Int) < (rest.length : Int)) = true := decide_eq_true (by omega)
      have hrl : rest.length < 64 := by have := HAR.out; have := HM.out; omega
      have HR := Lib.hid hrl
      have HH0 := Lib.hid h0
      clear hrl
      go_wp2
      go_loop [4] (fun v4 => ∃ K : Nat, v4 = .int .i64 K ∧ Hid (K ≤ rest.length) ∧ Hid (0 < K) ∧ Hid (∃ j, K = 2 ^ j)) (fun v4 => rest.length + 1 - (intOf v4).toNat)
      case atStart => exact ⟨1, rfl, Lib.hid h0, Lib.hid Nat.one_pos, Lib.hid ⟨0, rfl⟩⟩
      case round =>
        obtain ⟨K, rfl, HK1, HK0, HK⟩ := hrel
        have hrl := HR.out
        have hK := HK1.out
        have hK0 := HK0.out
        have hwr : wrap64 (2 * (K : Int)) = 2 * (K : Int) := wrap64_id (by omega) (by omega)
        by_cases hlt : 2 * K ≤ rest.length
        · have hdd : decide (2 * (K : Int) ≤ (rest.length : Int)) = true := decide_eq_true (by omega)
          go_wp2
          refine ⟨⟨2 * K, by simp, Lib.hid (by omega), Lib.hid (by omega), Lib.hid ?_⟩, by simp only [intOf]; omega⟩
          obtain ⟨j, rfl⟩ := HK.out
          exact ⟨j + 1, by rw [Nat.pow_succ, Nat.mul_comm]⟩
        · have hdd : decide (2 * (K : Int) ≤ (rest.length : Int)) = false := decide_eq_false (by omega)
          obtain ⟨i9, hi9, _, hsz9, _⟩ := info_parts inf9
          obtain ⟨hcut1, hA1, hC1⟩ := print_take_of (P := Tryd.prog) Value.string ByteArray.empty 22 9 .i64 Tryd.underlying22 hi9 hsz9 A2 c2 rest (K : Nat) (by omega) (by omega) hc2
          obtain ⟨A3, hcut2, hA3, hC3⟩ := print_drop_of (P := Tryd.prog) Value.string ByteArray.empty 22 9 .i64 Tryd.underlying22 hi9 hsz9 A2 c2 rest (K : Nat) (by omega) (by omega) hc2
          rw [Int.toNat_natCast] at hcut1 hA1 hC1 hcut2 hA3 hC3
          have l1 : (rest.take K).length = K := by rw [List.length_take]; omega
          have l2 : (rest.drop K).length = rest.length - K := by rw [List.length_drop]
          have kR := RootR_calls 64 (rest.take K) (by omega) (by omega) (fun s hm => HS.out s (by have := List.mem_of_mem_take hm; rw [HRS.out] at this; exact List.mem_of_mem_drop this)) A2 c2 wr (hA1 wr (hr2.below hb)) hC1
          have hX : rootH (rest.take K) = seg l a K := by rw [HRS.out]; exact seg_at l a K hK0 (by have := HAR.out; omega)
          rw [hX] at kR
          have hRl : R.length ≤ 6 := by
            rw [HDN.out, List.length_map]
            have h1 := hiP_len 6 0 l.length
            rw [HGR.out, List.length_append] at h1
            omega
          have hb16 : (R.length + 1) * 16 ≤ 140737488355328 := by omega
          have hbs := hb.size
          have HCC := Lib.hid hC3
          have HA3 := Lib.hid hA3
          have HR2 := Lib.hid hr2
          have HL2 := Lib.hid l2
          have HOW := Lib.hid hown
          have HBB := Lib.hid hb
          rw [l1] at hcut1 kR
          generalize hxx : seg l a K = x at *
          have HXX := Lib.hid hxx
          clear hC1 hC3 hi9 hsz9 hA1 hA3 hr2 hRl hX hxx hown hb
          go_wp2_with (first
            | (go_at_call 40; go_loud (with_reducible refine kR.mono ?_; rintro e w2 ⟨rfl, hb2⟩; have ho2 := pw_own_below HOW.out hb2; have hB2 := HBB.out.trans (hb2.mono hbs); have hs2 := Nat.le_trans hbs hb2.size))
            | (at_builtin; go_loud (refine print_append_of (w0 := w) Value.string w.heap.size rfl _ _ 22 9 (.string ⟨#[]⟩) 16 rfl Tryd.underlying22 inf9 rfl (by decide) u3 R x rfl rfl rfl ho2 hB2 hs2 hb16 ?_; intro v5 w5 hown5 hB5 _ _)))
          obtain ⟨j, hj⟩ := HK.out
          obtain ⟨g, hg1, hg2⟩ := gr_step f a rest.length j h0 HF.out (by omega) (by omega)
          rw [← hj] at hg1 hg2
          refine ⟨⟨rest.drop K, g, a + K, dn ++ [(a, K)], R ++ [x], A3, c2 - K, by rw [HL2.out], HCC.out, HA3.out w HR2.out, Lib.hid ?_, Lib.hid ?_, Lib.hid ?_, Lib.hid ?_, Lib.hid ?_, ?_, hB5⟩, by simp only []; omega⟩
          · rw [HRS.out, List.drop_drop]
          · have := HAR.out; have := HL2.out; omega
          · rw [HL2.out]; exact hg1
          · rw [HGR.out, hg2, HL2.out]; simp
          · rw [HDN.out, ← HXX.out]; simp
          · simpa using hown5
    · have hd : decide ((0 : Int) < (rest.length : Int)) = false := decide_eq_false (by omega)
      have hz : rest.length = 0 := by omega
      have hg := HGR.out
      rw [hz, gr_zero, List.append_nil] at hg
      have hR : R = pkN l l.length := by unfold pkN; rw [HDN.out, hg]
      have HOW := Lib.hid hown
      have HBB := Lib.hid hb
      rw [hR] at HOW
      clear hr hr2 hown hb hg
      go_wp2
      go_ret
      exact ⟨_, rfl, HOW.out, HBB.out⟩
end Go.Proofs.YtoeibcdnhglobaaDoor.P

/- pantileref15.Same: the walk. -/
namespace Go.Proofs.YtoeibcdnhglobaaDoor.P
set_option linter.unusedVariables false
set_option linter.unusedSimpArgs false
open Go.RowKit Go.Shelf Go.Proofs.YtoeibcdnhglobaaDoorW.PrintWords Go.Proofs.YtoeibcdnhglobaaDoorW.PrintLast Go.Proofs.YtoeibcdnhglobaaDoorW.PrintMore
open Go.Proofs.YtoeibcdnhglobaaDoor.Pure

theorem cells81_at : ∀ (l : List (ByteArray × ByteArray)) (j : Nat) (hj : j < l.length), (cells81 l)[j * 3]? = some (.string l[j].1) ∧ (cells81 l)[j * 3 + 1]? = some (.string l[j].2) ∧ (cells81 l)[j * 3 + 2]? = some (.bool false)
  | [], j, hj => absurd hj (Nat.not_lt_zero _)
  | p :: l, 0, _ => ⟨rfl, rfl, rfl⟩
  | p :: l, j + 1, hj => by
    have h := cells81_at l j (by simpa using hj)
    have e : ∀ m, (cells81 (p :: l))[m + 3]? = (cells81 l)[m]? := fun m => rfl
    rw [show (j + 1) * 3 = j * 3 + 3 by omega, show j * 3 + 3 + 1 = (j * 3 + 1) + 3 by omega, show j * 3 + 3 + 2 = (j * 3 + 2) + 3 by omega, e, e, e]
    exact h
/-- A row of entries that can be read. -/
def EntRow (w : World) (A : Option Addr) (l : List (ByteArray × ByteArray)) : Prop := l = [] ∨ ∃ g, A = some ⟨g, 0, none⟩ ∧ ∀ j (hj : j < l.length), w.rangeAt g (j * 3) [.string l[j].1, .string l[j].2, .bool false]
theorem EntRow.below {w w' : World} {A : Option Addr} {l : List (ByteArray × ByteArray)} (h : EntRow w A l) (hb : Below w.heap.size w w') : EntRow w' A l := by
  rcases h with h | ⟨g, hA, hc⟩
  · exact .inl h
  · exact .inr ⟨g, hA, fun j hj k v hv => pw_cell_below hb (hc j hj k v hv)⟩
theorem EntRow.of_own {w : World} {base n c : Nat} {A : Option Addr} {l : List (ByteArray × ByteArray)} (ho : w.ownsRow base 131 3 (.slice A n c) l.length (cells81 l)) : EntRow w A l := by
  by_cases h0 : l = []
  · exact .inl h0
  · have hp : 0 < l.length := List.length_pos_iff.2 h0
    obtain ⟨g, cp, he, _⟩ := World.ownsRow.form ho hp
    simp only [Value.slice.injEq] at he
    obtain ⟨rfl, rfl, rfl⟩ := he
    refine .inr ⟨g, rfl, fun j hj k v hv => ?_⟩
    obtain ⟨e0, e1, e2⟩ := cells81_at l j hj
    have hc := fun m hm => World.ownsRow.cellAt ho m hm
    have hk : k < 3 := by
      rcases Nat.lt_or_ge k 3 with h | h
      · exact h
      · rw [List.getElem?_eq_none (by simpa using h)] at hv; cases hv
    match k, hk with
    | 0, _ => rw [Nat.add_zero, hc _ (by omega), e0, ← hv]; rfl
    | 1, _ => rw [hc _ (by omega), e1, ← hv]; rfl
    | 2, _ => rw [hc _ (by omega), e2, ← hv]; rfl
theorem size131 : (Tryd.prog.info? 131).map (·.size) = some 3 := by kernel_rfl
set_option maxRecDepth 100000 in
set_option maxHeartbeats 4000000 in
theorem Same15_calls (A0 A1 : Option Addr) (c0 c1 : Nat) (l : List (ByteArray × ByteArray)) (hl : l.length ≤ 1000000) (w : World) (h0 : EntRow w A0 l) (h1 : EntRow w A1 l) :
    Calls Tryd.prog 67 #[.slice A0 l.length c0, .slice A1 l.length c1] w fun e w' => e = .returned (.bool true) ∧ Below w.heap.size w w' := by
  have hbig : (l.length : Int) ≤ 1000000 := by omega
  have H0 := Lib.hid h0
  have H1 := Lib.hid h1
  clear h0 h1 hl
  go_enter Tryd.func67, Tryd.ntmps67
  go_wp2
  go_loopw [5] (fun v5 wr => ∃ (i : Nat), v5 = .int .i64 i ∧ i ≤ l.length ∧ Below w.heap.size w wr) (fun v5 _ => l.length - (intOf v5).toNat)
  case atStart => exact ⟨0, rfl, by omega, Below.refl _ _⟩
  case round =>
    obtain ⟨i, rfl, hi, hb⟩ := hrel
    by_cases hlt : i < l.length
    · have hne : l ≠ [] := fun h => by subst h; simp at hlt
      obtain ⟨g0, rfl, hc0⟩ := H0.out.resolve_left hne
      obtain ⟨g1, rfl, hc1⟩ := H1.out.resolve_left hne
      have hx0 := hc0 i hlt
      have hx1 := hc1 i hlt
      generalize l[i].1 = x at *
      generalize l[i].2 = y at *
      have hlI : (i : Int) < (l.length : Int) := by omega
      have hdd : decide ((i : Int) < (l.length : Int)) = true := decide_eq_true hlI
      have kL0 := fun (W : World) (hW : Below wr.heap.size wr W) => run_loadAt_mid (P := Tryd.prog) W g0 (i * 3) 131 _ _ (fun j v hv => pw_cell_below hW (pw_cell_below hb (hx0 j v hv))) Tryd.underlying131 rfl size131
      have kL1 := fun (W : World) (hW : Below wr.heap.size wr W) => run_loadAt_mid (P := Tryd.prog) W g1 (i * 3) 131 _ _ (fun j v hv => pw_cell_below hW (pw_cell_below hb (hx1 j v hv))) Tryd.underlying131 rfl size131
      have HB := Lib.hid hb
      clear hx0 hx1 hc0 hc1 hne hb
      go_wp2
      refine wp_region_below rfl (by kernel_rfl) (by kernel_rfl) ?_
      repeat (first
        | (refine wpQuietIn_go (v := ?_) (a' := ?_) rfl (fun _ => trivial) (fun w' hC => qval ?_) rfl ?_ ?_; rotate_left; rotate_left; (go_simp; with_reducible rfl); (simp only [Act.put, List.setIfInBounds_toArray, List.set_cons_zero, List.set_cons_succ, i64_w, i32_w]; rfl))
        | (refine wpQuietIn_go (v := .agg #[.string x, .string y, .bool false]) (a' := ?_) rfl (fun _ => trivial) (fun w' hC => qval ?_) rfl ?_ ?_; rotate_left; (have p0 := kL0 w' hC; have p1 := kL1 w' hC; unfold execOp; simp [Act.eval, p0, p1]); (simp only [Act.put, List.setIfInBounds_toArray, List.set_cons_zero, List.set_cons_succ, i64_w, i32_w]; rfl)))
      refine wpQuietIn_nil ?_
      intro w5 hb5
      clear kL0 kL1
      go_wp2
      exact ⟨⟨i + 1, by go_num, by omega, HB.out.trans (hb5.mono HB.out.size)⟩, by simp only [intOf]; omega⟩
    · have hdd : decide ((i : Int) < (l.length : Int)) = false := decide_eq_false (by omega)
      go_wp2
      go_ret
      exact ⟨rfl, hb⟩
end Go.Proofs.YtoeibcdnhglobaaDoor.P

/- pantileref15.Grow: the walk. (Printed by wip/tools/genrg.py.) -/
namespace Go.Proofs.YtoeibcdnhglobaaDoor.P
set_option linter.unusedVariables false
set_option linter.unusedSimpArgs false
open Go.RowKit Go.Shelf Go.Proofs.YtoeibcdnhglobaaDoorW.PrintWords Go.Proofs.YtoeibcdnhglobaaDoorW.PrintLast Go.Proofs.YtoeibcdnhglobaaDoorW.PrintMore
open Go.Proofs.YtoeibcdnhglobaaDoor.Pure

theorem pow_facts (a k z : Nat) (hz : z = 2 ^ (k + 1)) (ha : a < 40) (hk : k ≤ 5) : 2 ≤ z ∧ z ≤ 64 ∧ ((a + 1) % z = 0 → z ≤ a + 1) := by
  have h1 : 2 ^ (k + 1) ≤ 2 ^ 6 := Nat.pow_le_pow_right (by omega) (by omega)
  have h2 : 2 ^ 1 ≤ 2 ^ (k + 1) := Nat.pow_le_pow_right (by omega) (by omega)
  subst hz
  exact ⟨h2, h1, fun h => Nat.le_of_dvd (Nat.succ_pos a) (Nat.dvd_of_mod_eq_zero h)⟩
theorem wrap_small (n : Nat) (h : n ≤ 1000000) : IntKind.i64.wrap (n : Int) = (n : Int) ∧ wrap64 (n : Int) = (n : Int) := by
  constructor
  · rw [IntKind.wrap_i64]; omega
  · exact wrap64_id (by omega) (by omega)
theorem wrap_twice (z : Nat) (h : z ≤ 64) : IntKind.i64.wrap (2 * (z : Int)) = 2 * (z : Int) ∧ wrap64 (2 * (z : Int)) = 2 * (z : Int) := by
  constructor
  · rw [IntKind.wrap_i64]; omega
  · exact wrap64_id (by omega) (by omega)
theorem rem_nat (a z : Nat) : ((a : Int) + 1).tmod (z : Int) = ((a + 1) % z : Nat) := by
  rw [show (a : Int) + 1 = ((a + 1 : Nat) : Int) from rfl, Int.tmod_eq_emod_of_nonneg (by omega)]
  rfl
theorem quo_nat (a z : Nat) : (a : Int).tdiv (z : Int) = ((a / z : Nat) : Int) := by
  rw [Int.tdiv_eq_ediv_of_nonneg (by omega)]
  rfl
theorem rem_nat2 (a z : Nat) : ((a : Int) + 1) % (z : Int) = ((a : Int) + 1).tmod (z : Int) := (Int.tmod_eq_emod_of_nonneg (by omega)).symm
theorem quo_nat2 (a z : Nat) : (a : Int) / (z : Int) = (a : Int).tdiv (z : Int) := (Int.tdiv_eq_ediv_of_nonneg (by omega)).symm
set_option maxRecDepth 100000 in
set_option maxHeartbeats 8000000 in
theorem RGrow_calls (H : List ByteArray) (n : Nat) (hn : n ≤ H.length) (hH : H.length ≤ 40) (hs : ∀ s ∈ H, s.size ≤ 32) (A : Option Addr) (c : Nat) (w : World)
    (hr : ReadsOf Value.string ByteArray.empty w A H.length H) (hc : H.length ≤ c) :
    Calls Tryd.prog 68 #[.int .i64 n, .slice A H.length c] w fun e w' => ∃ v, e = .returned v ∧
      w'.ownsRow w.heap.size 131 3 v (grownL H n (H.length - n)).length (cells81 (grownL H n (H.length - n))) ∧ Below w.heap.size w w' := by
  obtain ⟨n0, hn0⟩ : ∃ n0, w.heap.size = n0 := ⟨_, rfl⟩
  obtain ⟨N, hN⟩ : ∃ N, N = H.length := ⟨_, rfl⟩
  have HNL := Lib.hid hN
  obtain ⟨i9, hi9, _, hsz9, _⟩ := info_parts inf9
  have kM := fun (j b : Nat) (h1 : j ≤ b) (h2 : b ≤ H.length) => print_mid_of (P := Tryd.prog) Value.string ByteArray.empty 22 9 .i64 .i64 Tryd.underlying22 hi9 hsz9 A c H (j : Int) (b : Int) (by omega) (by omega) (by omega) hc
  rw [← hN] at hr kM ⊢
  have HKM := Lib.hid kM
  have HR := Lib.hid hr
  have HS := Lib.hid hs
  have HHL := Lib.hid (hN ▸ hH)
  have HNH := Lib.hid (hN ▸ hn)
  have HN0 := Lib.hid hn0
  have hNI : (N : Int) ≤ 40 := by omega
  have hnI : (n : Int) ≤ 40 := by omega
  rw [hn0]
  clear hr hs hH hn hn0 hN kM hi9 hsz9 hc
  go_enter Tryd.func68, Tryd.ntmps68
  go_wp2
  go_loopw [5, 6, 7, 8] (fun v5 v6 v7 v8 wr => ∃ i a : Nat, v6 = .int .i64 a ∧ Hid (a = n + i) ∧ a ≤ N ∧ wr.ownsRow n0 131 3 v5 (grownL H n i).length (cells81 (grownL H n i)) ∧ Below n0 w wr) (fun _ v6 _ _ _ => N - (intOf v6).toNat)
  case atStart => exact ⟨0, n, rfl, Lib.hid rfl, HNH.out, own_nil _ _ _ _, HN0.out ▸ Below.refl _ _⟩
  case round =>
    obtain ⟨i, a, rfl, HA, hi, hent, hbl⟩ := hrel
    by_cases hlt : a < N
    · have hd : decide (a < N) = true := decide_eq_true hlt
      have hltI : (a : Int) < (N : Int) := by omega
      have hdI : decide ((a : Int) < (N : Int)) = true := decide_eq_true hltI
      obtain ⟨ad, hA, hcell⟩ := HR.out.2.2 (by omega)
      subst hA
      have hb0 : Below w.heap.size w wr := by rw [HN0.out]; exact hbl
      have hcw := pw_cell_below hb0 (hcell a hlt)
      have hxe : H.getD a ByteArray.empty = seg H a 1 := by
        have := drop_get H 0 a (by have := HNL.out; omega)
        rwa [List.drop_zero, Nat.zero_add] at this
      rw [hxe] at hcw
      have kN : ∀ W : World, Calls Tryd.prog 74 #[.int .i64 0, .int .i64 a] W _ := fun W => RNodeK_calls 0 (a : Int) (by omega) (by omega) W
      have hk0 : nodeK (0 : Int).toNat ((a : Nat) : Int).toNat = nodeK 0 a := by rw [Int.toNat_natCast]; rfl
      simp only [hk0] at kN
      generalize hx : seg H a 1 = x at *
      generalize hkk : nodeK 0 a = kk at *
      have HX := Lib.hid hx
      have HKK := Lib.hid hkk
      obtain ⟨A8, c8, rfl⟩ := own_slice hent
      have hl0 : n0 ≤ wr.heap.size := by have := HN0.out; have := hbl.size; omega
      have ha40 : a < 40 := by omega
      have hgl : ((grownL H n i).length + 1) * 40 ≤ 140737488355328 := by have := grownL_len H n i; have := HA.out; omega
      have HENT := Lib.hid hent
      have HBL := Lib.hid hbl
      obtain ⟨G, hG⟩ : ∃ G, G = grownL H n i := ⟨_, rfl⟩
      have HGL := Lib.hid hG
      rw [← hG] at HENT hgl
      rw [← hG]
      clear hcell hk0 hx hkk hent hbl hb0 hxe hG
      go_wp2
      refine start_ (n := 11) (S := fun w' => Below wr.heap.size wr w') (ds := [9, 10]) #[false, false, false, false, false, false, false, false, false, false, false] (by kernel_rfl) rfl rfl ((Below.refl _ wr).drew) (fun hH0 => ?_)
      refine pure_ (i := 0) (N := some 16) (v := ?_) (a' := ?_) #[true, false, false, false, false, false, false, false, false, false, false] rfl rfl (by kernel_rfl) (fun _ _ _ h => h) (Or.inl ⟨by rfl, ?_⟩) ?_ ?_
      rotate_left
      · intro w'
        go_simp
        with_reducible rfl
      rotate_left
      · simp only [Act.put, List.setIfInBounds_toArray, List.set_cons_zero, List.set_cons_succ, i64_w, i32_w]
        rfl
      refine pure_ (i := 1) (N := some 17) (v := ?_) (a' := ?_) #[true, true, false, false, false, false, false, false, false, false, false] rfl rfl (by kernel_rfl) (fun _ _ _ h => h) (Or.inl ⟨by rfl, ?_⟩) ?_ ?_
      rotate_left
      · intro w'
        go_simp
        with_reducible rfl
      rotate_left
      · simp only [Act.put, List.setIfInBounds_toArray, List.set_cons_zero, List.set_cons_succ, i64_w, i32_w]
        rfl
      refine pure_ (i := 3) (N := some 19) (v := ?_) (a' := ?_) #[true, true, false, true, false, false, false, false, false, false, false] rfl rfl (by kernel_rfl) (fun _ _ _ h => h) (Or.inl ⟨by rfl, ?_⟩) ?_ ?_
      rotate_left
      · intro w'
        go_simp
        with_reducible rfl
      rotate_left
      · simp only [Act.put, List.setIfInBounds_toArray, List.set_cons_zero, List.set_cons_succ, i64_w, i32_w]
        rfl
      refine pure_ (i := 4) (N := some 20) (v := ?_) (a' := ?_) #[true, true, false, true, true, false, false, false, false, false, false] rfl rfl (by kernel_rfl) (fun _ _ _ h => h) (Or.inl ⟨by rfl, ?_⟩) ?_ ?_
      rotate_left
      · intro w'
        go_simp
        with_reducible rfl
      rotate_left
      · simp only [Act.put, List.setIfInBounds_toArray, List.set_cons_zero, List.set_cons_succ, i64_w, i32_w]
        rfl
      refine pure_ (i := 5) (N := some 21) (v := ?_) (a' := ?_) #[true, true, false, true, true, true, false, false, false, false, false] rfl rfl (by kernel_rfl) (fun _ _ _ h => h) (Or.inl ⟨by rfl, ?_⟩) ?_ ?_
      rotate_left
      · intro w'
        go_simp
        with_reducible rfl
      rotate_left
      · simp only [Act.put, List.setIfInBounds_toArray, List.set_cons_zero, List.set_cons_succ, i64_w, i32_w]
        rfl
      refine take_ (i := 6) (N := some 22) (v := .string x) (a' := ?_) #[true, true, false, true, true, true, true, false, false, false, false] rfl rfl (by kernel_rfl) (fun _ _ _ h => h) (Or.inl ⟨by rfl, ?_⟩) hH0 ?_ ?_
      · intro w' hS
        have p := pw_cell_below hS hcw
        go_simp
      rotate_left
      · simp only [Act.put, List.setIfInBounds_toArray, List.set_cons_zero, List.set_cons_succ, i64_w, i32_w]
        rfl
      refine one_ (i := 2) (N := some 18) #[true, true, true, true, true, true, true, false, false, false, false] rfl rfl (by kernel_rfl) (by decide) (fun K hK => ?_)
      refine goes_ Tryd.func74 (by kernel_rfl) rfl #[.int .i64 0, .int .i64 a] (by rfl) rfl rfl (by simp only [List.map_toArray, List.map_cons, List.map_nil]; rfl) ?_
      refine (kN _).mono ?_
      rintro e y1 ⟨rfl, hb_y1⟩
      have hq1 := hH0.trans (hb_y1.mono hH0.size)
      have ho1 := pw_own_below HENT.out hq1
      have hB1 := HBL.out.trans (hq1.mono hl0)
      refine ⟨_, rfl, ?_⟩
      refine hK.out _ _ hq1 (fun hH1 => ?_)
      clear hK K
      refine norm_ (a' := ?_) ?_ ?_
      rotate_left
      · show Act.put _ (some 18) _ = _
        simp only [Act.put, List.setIfInBounds_toArray, List.set_cons_zero, List.set_cons_succ, i64_w, i32_w]
        rfl
      refine pure_ (i := 7) (N := some 23) (v := .agg #[.string kk, .string x, .bool false]) (a' := ?_) #[true, true, true, true, true, true, true, true, false, false, false] rfl rfl (by kernel_rfl) (fun _ _ _ h => h) (Or.inl ⟨by rfl, ?_⟩) ?_ ?_
      · intro w'
        go_simp
      rotate_left
      · simp only [Act.put, List.setIfInBounds_toArray, List.set_cons_zero, List.set_cons_succ, i64_w, i32_w]
        rfl
      refine one_ (i := 8) (N := some 24) #[true, true, true, true, true, true, true, true, true, false, false] rfl rfl (by kernel_rfl) (by decide) (fun K hK => ?_)
      refine value_ (w1 := ?_) (v := ?_) (by rfl) rfl ?_ ?_
      rotate_left 2
      · go_simp
        constructor
        · rfl
        · rfl
      refine hK.out _ _ (hH1.alloc hH1.size _) (fun _ => ?_)
      clear hK K
      refine norm_ (a' := ?_) ?_ ?_
      rotate_left
      · show Act.put _ (some 24) _ = _
        simp only [Act.put, List.setIfInBounds_toArray, List.set_cons_zero, List.set_cons_succ, i64_w, i32_w]
        rfl
      refine last_ (i := 9) (N := some 25) #[true, true, true, true, true, true, true, true, true, true, false] rfl rfl (by kernel_rfl) (by decide) (fun K hK => ?_)
      refine step_append_cells (W := y1) (w0 := w) n0 (by rfl) (.tmp 16) (.tmp 24) 81 131 (.agg #[.string ⟨#[]⟩, .string ⟨#[]⟩, .bool false]) 3 40 rfl Tryd.underlying81 inf131 rfl (by decide) (by decide) (.slice A8 G.length c8) G.length (cells81 G) [.string kk, .string x, .bool false] (by rfl) (by rfl) rfl (by simp [Value.oneCell']) ho1 hB1 (Nat.le_trans hl0 hq1.size) hgl ?_
      intro v4 w4 hown4 hB4 _ _
      refine hK.out _ _ ?_
      clear hK K
      refine norm_ (a' := ?_) ?_ ?_
      rotate_left
      · show Act.put _ (some 25) _ = _
        simp only [Act.put, List.setIfInBounds_toArray, List.set_cons_zero, List.set_cons_succ, i64_w, i32_w]
        rfl
      refine last_ (i := 10) (N := some 5) #[true, true, true, true, true, true, true, true, true, true, true] rfl rfl (by kernel_rfl) (by decide) (fun K hK => ?_)
      refine value_ (w1 := ?_) (v := ?_) (by rfl) rfl ?_ ?_
      rotate_left 2
      · go_simp
        constructor
        · rfl
        · rfl
      refine hK.out _ _ ?_
      clear hK K
      refine norm_ (a' := ?_) ?_ ?_
      rotate_left
      · show Act.put _ (some 5) _ = _
        simp only [Act.put, List.setIfInBounds_toArray, List.set_cons_zero, List.set_cons_succ, i64_w, i32_w]
        rfl
      refine done_ (by kernel_rfl) ?_
      try simp only [calmly]
      go_wp2
      have HE4 := Lib.hid hown4
      have HB4 := Lib.hid hB4
      clear hown4 hB4 ho1 hB1 hq1 hcw kN hb_y1 hH0 hH1
      generalize wr = wA at *
      go_loopw [5, 7, 8] (fun v5 v7 v8 wr => ∃ k L z : Nat, Hid (L = k + 1) ∧ v8 = .int .i64 L ∧ v7 = .int .i64 z ∧ Hid (z = 2 ^ L) ∧ k ≤ 5 ∧ Hid ((a + 1) % 2 ^ k = 0) ∧ wr.ownsRow n0 131 3 v5 (G ++ (kk, x) :: entTo H a k).length (cells81 (G ++ (kk, x) :: entTo H a k)) ∧ Below n0 w wr) (fun _ _ v8 _ => 7 - (intOf v8).toNat)
      case atStart =>
        refine ⟨0, 1, 2, Lib.hid rfl, rfl, rfl, Lib.hid rfl, by omega, Lib.hid (Nat.mod_one _), ?_, HB4.out⟩
        have e := HE4.out
        rw [cells81_snoc] at e
        have el : (G ++ [(kk, x)]).length = G.length + 1 := by simp
        show w4.ownsRow n0 131 3 v4 (G ++ [(kk, x)]).length (cells81 (G ++ [(kk, x)]))
        rw [el]
        exact e
      case round =>
        obtain ⟨k, L, z, HL, rfl, rfl, HZ2, hk, HK, hen, hbl⟩ := hrel
        have hzz : z = 2 ^ (k + 1) := by rw [HZ2.out, HL.out]
        obtain ⟨hz2, hz64, hzle⟩ := pow_facts a k z hzz ha40 hk
        have hLI : (L : Int) ≤ 6 := by have := HL.out; omega
        have hL1 : (1 : Int) ≤ (L : Int) := by have := HL.out; omega
        have hrem := rem_nat a z
        have hwa : IntKind.i64.wrap ((a : Int) + 1) = (a : Int) + 1 := by rw [IntKind.wrap_i64]; omega
        have hl0' : n0 ≤ wr.heap.size := Nat.le_trans (by have := HN0.out; omega) (HN0.out ▸ hbl).size
        have hzI : (z : Int) ≠ 0 := by omega
        have hzI2 : (z : Int) ≤ 64 := by omega
        have hzI1 : (2 : Int) ≤ (z : Int) := by omega
        have haI : (a : Int) < 40 := by omega
        obtain ⟨rr, hrr⟩ : ∃ rr, rr = (a + 1) % z := ⟨_, rfl⟩
        rw [← hrr] at hrem
        by_cases hdv : rr = 0
        · have hdv0 : (a + 1) % z = 0 := by rw [← hrr]; exact hdv
          have hza := hzle hdv0
          have hdvk : (a + 1) % 2 ^ (k + 1) = 0 := hzz ▸ hdv0
          have e1 : (rr == 0) = true := beq_iff_eq.2 hdv
          have e2 : ((rr : Int) == 0) = true := by rw [hdv]; rfl
          have hquo := quo_nat a z
          obtain ⟨q, hq⟩ : ∃ q, q = a / z := ⟨_, rfl⟩
          rw [← hq] at hquo
          have hqa : q ≤ a := by rw [hq]; exact Nat.div_le_self _ _
          have hq40 : q ≤ 1000000 := Nat.le_trans hqa (by omega)
          have hqI : (q : Int) < 40 := by omega
          obtain ⟨A3, hcut, hA3, hc3⟩ := HKM.out (a + 1 - z) (a + 1) (by omega) (by have := HNL.out; omega)
          have hsub : (a : Int) + 1 - (z : Int) = ((a + 1 - z : Nat) : Int) := by omega
          have hadd : ((a + 1 : Nat) : Int) = (a : Int) + 1 := rfl
          simp only [Int.toNat_natCast] at hcut hA3 hc3
          have hsegm := seg_mid H (a + 1) z (by omega) hza (by have := HNL.out; omega)
          obtain ⟨sb, hsb⟩ : ∃ sb, sb = a + 1 - z := ⟨_, rfl⟩
          have hsb40 : sb ≤ 1000000 := by rw [hsb]; omega
          rw [← hsb] at hcut hA3 hc3 hsub
          rw [hadd] at hcut
          have hl3 : ((H.take (a + 1)).drop sb).length = z := by rw [List.length_drop, List.length_take, hsb]; have := HNL.out; omega
          have kR := fun (W : World) (hW : Below wr.heap.size wr W) => RootR_calls 40 ((H.take (a + 1)).drop sb) (by omega) (by omega) (fun s hm => HS.out s (List.mem_of_mem_take (List.mem_of_mem_drop hm))) A3 (c - sb) W (((hA3 w (HNL.out ▸ HR.out)).below (HN0.out ▸ hbl)).below hW) hc3
          have hZ' : seg H (a + 1 - z) z = rootH ((H.take (a + 1)).drop sb) := by rw [hsb]; exact hsegm.symm
          have kN : ∀ W : World, Calls Tryd.prog 74 #[.int .i64 L, .int .i64 q] W _ := fun W => RNodeK_calls (L : Int) (q : Int) (by omega) (by omega) W
          simp only [Int.toNat_natCast] at kN
          have hEl : ((G ++ (kk, x) :: entTo H a k).length + 1) * 40 ≤ 140737488355328 := ent_bound H n i a k G kk x HGL.out (by have := HA.out; omega) hk
          have hEs : (G ++ (kk, x) :: entTo H a k) ++ [(nodeK L q, seg H (a + 1 - z) z)] = G ++ (kk, x) :: entTo H a (k + 1) := by rw [entTo_step, hq, hzz, HL.out]; simp
          obtain ⟨Z, hZ⟩ : ∃ Z, Z = seg H (a + 1 - z) z := ⟨_, rfl⟩
          rw [← hZ] at hEs
          rw [← hZ] at hZ'
          have hkR : ∀ (W : World), Below wr.heap.size wr W → Calls Tryd.prog 40 #[.slice A3 z (c - sb)] W fun e w' => e = .returned (.string Z) ∧ Below W.heap.size W w' := fun W hW => by
            have h := kR W hW
            rw [← hZ', hl3] at h
            exact h
          rw [hl3] at hcut
          obtain ⟨k3, hk3⟩ : ∃ k3, k3 = nodeK L q := ⟨_, rfl⟩
          rw [← hk3] at hEs
          simp only [← hk3] at kN
          have HES := Lib.hid hEs
          have HEN := Lib.hid hen
          have HBW := Lib.hid hbl
          obtain ⟨A9, c9, rfl⟩ := own_slice hen
          have hwq : IntKind.i64.wrap (q : Int) = (q : Int) := (wrap_small q hq40).1
          have hws : IntKind.i64.wrap ((a : Int) + 1 - (z : Int)) = (sb : Int) := by rw [hsub]; exact (wrap_small sb hsb40).1
          obtain ⟨hw2, hw2b⟩ := wrap_twice z hz64
          have hlb := lev_bound a k ha40 hk hdvk
          have HLB := Lib.hid hlb
          obtain ⟨hwis, hw64s⟩ := wrap_small sb hsb40
          have hzN : ¬ z = 0 := fun h => absurd hz2 (by rw [h]; decide)
          have HZZ := Lib.hid hzz
          have hrem2 := (rem_nat2 a z).trans hrem
          have hquo2 := (quo_nat2 a z).trans hquo
          have e3 : ((rr : Int) == (0 : Int)) = true := e2
          have HDK := Lib.hid hdvk
          obtain ⟨E, hE⟩ : ∃ E, E = G ++ (kk, x) :: entTo H a k := ⟨_, rfl⟩
          rw [← hE] at hEl HES HEN
          rw [← hE]
          clear hE hZ hZ' hEs hk3 hsb hsegm hl3 hc3 hA3 hdvk hdv0 hzle hen hbl hlb hqa hq hadd hdv kR hrr hza hzz
          go_wp2
          refine start_ (n := 19) (S := fun w' => Below wr.heap.size wr w') (ds := [17, 18]) #[false, false, false, false, false, false, false, false, false, false, false, false, false, false, false, false, false, false, false] (by kernel_rfl) rfl rfl ((Below.refl _ wr).drew) (fun hH0 => ?_)
          refine pure_ (i := 0) (N := some 33) (v := ?_) (a' := ?_) #[true, false, false, false, false, false, false, false, false, false, false, false, false, false, false, false, false, false, false] rfl rfl (by kernel_rfl) (fun _ _ _ h => h) (Or.inl ⟨by rfl, ?_⟩) ?_ ?_
          rotate_left
          · intro w'
            go_simp
            with_reducible rfl
          rotate_left
          · simp only [Act.put, List.setIfInBounds_toArray, List.set_cons_zero, List.set_cons_succ, i64_w, i32_w]
            rfl
          refine pure_ (i := 1) (N := some 34) (v := ?_) (a' := ?_) #[true, true, false, false, false, false, false, false, false, false, false, false, false, false, false, false, false, false, false] rfl rfl (by kernel_rfl) (fun _ _ _ h => h) (Or.inl ⟨by rfl, ?_⟩) ?_ ?_
          rotate_left
          · intro w'
            go_simp
            with_reducible rfl
          rotate_left
          · simp only [Act.put, List.setIfInBounds_toArray, List.set_cons_zero, List.set_cons_succ, i64_w, i32_w]
            rfl
          refine pure_ (i := 2) (N := some 35) (v := ?_) (a' := ?_) #[true, true, true, false, false, false, false, false, false, false, false, false, false, false, false, false, false, false, false] rfl rfl (by kernel_rfl) (fun _ _ _ h => h) (Or.inl ⟨by rfl, ?_⟩) ?_ ?_
          rotate_left
          · intro w'
            go_simp
            with_reducible rfl
          rotate_left
          · simp only [Act.put, List.setIfInBounds_toArray, List.set_cons_zero, List.set_cons_succ, i64_w, i32_w]
            rfl
          refine pure_ (i := 3) (N := some 36) (v := ?_) (a' := ?_) #[true, true, true, true, false, false, false, false, false, false, false, false, false, false, false, false, false, false, false] rfl rfl (by kernel_rfl) (fun _ _ _ h => h) (Or.inl ⟨by rfl, ?_⟩) ?_ ?_
          rotate_left
          · intro w'
            go_simp
            with_reducible rfl
          rotate_left
          · simp only [Act.put, List.setIfInBounds_toArray, List.set_cons_zero, List.set_cons_succ, i64_w, i32_w]
            rfl
          refine pure_ (i := 4) (N := some 37) (v := ?_) (a' := ?_) #[true, true, true, true, true, false, false, false, false, false, false, false, false, false, false, false, false, false, false] rfl rfl (by kernel_rfl) (fun _ _ _ h => h) (Or.inl ⟨by rfl, ?_⟩) ?_ ?_
          rotate_left
          · intro w'
            go_simp
            with_reducible rfl
          rotate_left
          · simp only [Act.put, List.setIfInBounds_toArray, List.set_cons_zero, List.set_cons_succ, i64_w, i32_w]
            rfl
          refine pure_ (i := 6) (N := some 39) (v := ?_) (a' := ?_) #[true, true, true, true, true, false, true, false, false, false, false, false, false, false, false, false, false, false, false] rfl rfl (by kernel_rfl) (fun _ _ _ h => h) (Or.inl ⟨by rfl, ?_⟩) ?_ ?_
          rotate_left
          · intro w'
            go_simp
            with_reducible rfl
          rotate_left
          · simp only [Act.put, List.setIfInBounds_toArray, List.set_cons_zero, List.set_cons_succ, i64_w, i32_w]
            rfl
          refine pure_ (i := 7) (N := some 40) (v := ?_) (a' := ?_) #[true, true, true, true, true, false, true, true, false, false, false, false, false, false, false, false, false, false, false] rfl rfl (by kernel_rfl) (fun _ _ _ h => h) (Or.inl ⟨by rfl, ?_⟩) ?_ ?_
          rotate_left
          · intro w'
            go_simp
            with_reducible rfl
          rotate_left
          · simp only [Act.put, List.setIfInBounds_toArray, List.set_cons_zero, List.set_cons_succ, i64_w, i32_w]
            rfl
          refine pure_ (i := 8) (N := some 41) (v := ?_) (a' := ?_) #[true, true, true, true, true, false, true, true, true, false, false, false, false, false, false, false, false, false, false] rfl rfl (by kernel_rfl) (fun _ _ _ h => h) (Or.inl ⟨by rfl, ?_⟩) ?_ ?_
          rotate_left
          · intro w'
            go_simp
            with_reducible rfl
          rotate_left
          · simp only [Act.put, List.setIfInBounds_toArray, List.set_cons_zero, List.set_cons_succ, i64_w, i32_w]
            rfl
          refine pure_ (i := 9) (N := some 42) (v := ?_) (a' := ?_) #[true, true, true, true, true, false, true, true, true, true, false, false, false, false, false, false, false, false, false] rfl rfl (by kernel_rfl) (fun _ _ _ h => h) (Or.inl ⟨by rfl, ?_⟩) ?_ ?_
          rotate_left
          · intro w'
            go_simp
            with_reducible rfl
          rotate_left
          · simp only [Act.put, List.setIfInBounds_toArray, List.set_cons_zero, List.set_cons_succ, i64_w, i32_w]
            rfl
          refine pure_ (i := 10) (N := some 43) (v := ?_) (a' := ?_) #[true, true, true, true, true, false, true, true, true, true, true, false, false, false, false, false, false, false, false] rfl rfl (by kernel_rfl) (fun _ _ _ h => h) (Or.inl ⟨by rfl, ?_⟩) ?_ ?_
          rotate_left
          · intro w'
            go_simp
            with_reducible rfl
          rotate_left
          · simp only [Act.put, List.setIfInBounds_toArray, List.set_cons_zero, List.set_cons_succ, i64_w, i32_w]
            rfl
          refine pure_ (i := 11) (N := some 44) (v := ?_) (a' := ?_) #[true, true, true, true, true, false, true, true, true, true, true, true, false, false, false, false, false, false, false] rfl rfl (by kernel_rfl) (fun _ _ _ h => h) (Or.inl ⟨by rfl, ?_⟩) ?_ ?_
          rotate_left
          · intro w'
            go_simp
            with_reducible rfl
          rotate_left
          · simp only [Act.put, List.setIfInBounds_toArray, List.set_cons_zero, List.set_cons_succ, i64_w, i32_w]
            rfl
          refine pure_ (i := 12) (N := some 45) (v := ?_) (a' := ?_) #[true, true, true, true, true, false, true, true, true, true, true, true, true, false, false, false, false, false, false] rfl rfl (by kernel_rfl) (fun _ _ _ h => h) (Or.inl ⟨by rfl, ?_⟩) ?_ ?_
          rotate_left
          · intro w'
            go_simp
            with_reducible rfl
          rotate_left
          · simp only [Act.put, List.setIfInBounds_toArray, List.set_cons_zero, List.set_cons_succ, i64_w, i32_w]
            rfl
          refine pure_ (i := 13) (N := some 46) (v := ?_) (a' := ?_) #[true, true, true, true, true, false, true, true, true, true, true, true, true, true, false, false, false, false, false] rfl rfl (by kernel_rfl) (fun _ _ _ h => h) (Or.inl ⟨by rfl, ?_⟩) ?_ ?_
          rotate_left
          · intro w'
            go_simp
            with_reducible rfl
          rotate_left
          · simp only [Act.put, List.setIfInBounds_toArray, List.set_cons_zero, List.set_cons_succ, i64_w, i32_w]
            rfl
          refine one_ (i := 5) (N := some 38) #[true, true, true, true, true, true, true, true, true, true, true, true, true, true, false, false, false, false, false] rfl rfl (by kernel_rfl) (by decide) (fun K hK => ?_)
          refine goes_ Tryd.func74 (by kernel_rfl) rfl #[.int .i64 L, .int .i64 q] (by rfl) rfl rfl (by simp only [List.map_toArray, List.map_cons, List.map_nil]; rfl) ?_
          refine (kN _).mono ?_
          rintro e y1 ⟨rfl, hb_y1⟩
          have hq1 := hH0.trans (hb_y1.mono hH0.size)
          refine ⟨_, rfl, ?_⟩
          refine hK.out _ _ hq1 (fun hH1 => ?_)
          clear hK K
          refine norm_ (a' := ?_) ?_ ?_
          rotate_left
          · show Act.put _ (some 38) _ = _
            simp only [Act.put, List.setIfInBounds_toArray, List.set_cons_zero, List.set_cons_succ, i64_w, i32_w]
            rfl
          refine one_ (i := 14) (N := some 47) #[true, true, true, true, true, true, true, true, true, true, true, true, true, true, true, false, false, false, false] rfl rfl (by kernel_rfl) (by decide) (fun K hK => ?_)
          refine goes_ Tryd.func40 (by kernel_rfl) rfl #[.slice A3 z (c - sb)] (by rfl) rfl rfl (by simp only [List.map_toArray, List.map_cons, List.map_nil]; rfl) ?_
          refine (hkR _ hH1).mono ?_
          rintro e y2 ⟨rfl, hb_y2⟩
          have hq2 := hH1.trans (hb_y2.mono hH1.size)
          have ho2 := pw_own_below HEN.out hq2
          have hB2 := HBW.out.trans (hq2.mono hl0')
          refine ⟨_, rfl, ?_⟩
          refine hK.out _ _ hq2 (fun hH2 => ?_)
          clear hK K
          refine norm_ (a' := ?_) ?_ ?_
          rotate_left
          · show Act.put _ (some 47) _ = _
            simp only [Act.put, List.setIfInBounds_toArray, List.set_cons_zero, List.set_cons_succ, i64_w, i32_w]
            rfl
          refine pure_ (i := 15) (N := some 48) (v := .agg #[.string k3, .string Z, .bool false]) (a' := ?_) #[true, true, true, true, true, true, true, true, true, true, true, true, true, true, true, true, false, false, false] rfl rfl (by kernel_rfl) (fun _ _ _ h => h) (Or.inl ⟨by rfl, ?_⟩) ?_ ?_
          · intro w'
            go_simp
          rotate_left
          · simp only [Act.put, List.setIfInBounds_toArray, List.set_cons_zero, List.set_cons_succ, i64_w, i32_w]
            rfl
          refine one_ (i := 16) (N := some 49) #[true, true, true, true, true, true, true, true, true, true, true, true, true, true, true, true, true, false, false] rfl rfl (by kernel_rfl) (by decide) (fun K hK => ?_)
          refine value_ (w1 := ?_) (v := ?_) (by rfl) rfl ?_ ?_
          rotate_left 2
          · go_simp
            constructor
            · rfl
            · rfl
          refine hK.out _ _ (hH2.alloc hH2.size _) (fun _ => ?_)
          clear hK K
          refine norm_ (a' := ?_) ?_ ?_
          rotate_left
          · show Act.put _ (some 49) _ = _
            simp only [Act.put, List.setIfInBounds_toArray, List.set_cons_zero, List.set_cons_succ, i64_w, i32_w]
            rfl
          refine last_ (i := 17) (N := some 50) #[true, true, true, true, true, true, true, true, true, true, true, true, true, true, true, true, true, true, false] rfl rfl (by kernel_rfl) (by decide) (fun K hK => ?_)
          refine step_append_cells (W := y2) (w0 := w) n0 (by rfl) (.tmp 33) (.tmp 49) 81 131 (.agg #[.string ⟨#[]⟩, .string ⟨#[]⟩, .bool false]) 3 40 rfl Tryd.underlying81 inf131 rfl (by decide) (by decide) (.slice A9 E.length c9) E.length (cells81 E) [.string k3, .string Z, .bool false] (by rfl) (by rfl) rfl (by simp [Value.oneCell']) ho2 hB2 (Nat.le_trans hl0' hq2.size) hEl ?_
          intro v7 w7 hown7 hB7 _ _
          refine hK.out _ _ ?_
          clear hK K
          refine norm_ (a' := ?_) ?_ ?_
          rotate_left
          · show Act.put _ (some 50) _ = _
            simp only [Act.put, List.setIfInBounds_toArray, List.set_cons_zero, List.set_cons_succ, i64_w, i32_w]
            rfl
          refine last_ (i := 18) (N := some 5) #[true, true, true, true, true, true, true, true, true, true, true, true, true, true, true, true, true, true, true] rfl rfl (by kernel_rfl) (by decide) (fun K hK => ?_)
          refine value_ (w1 := ?_) (v := ?_) (by rfl) rfl ?_ ?_
          rotate_left 2
          · go_simp
            constructor
            · rfl
            · rfl
          refine hK.out _ _ ?_
          clear hK K
          refine norm_ (a' := ?_) ?_ ?_
          rotate_left
          · show Act.put _ (some 5) _ = _
            simp only [Act.put, List.setIfInBounds_toArray, List.set_cons_zero, List.set_cons_succ, i64_w, i32_w]
            rfl
          refine done_ (by kernel_rfl) ?_
          try simp only [calmly]
          clear hkR kN hq1 hq2 ho2 hB2 hb_y1 hb_y2 hH0 hH1 hH2
          have hz2L : 2 * z = 2 ^ (L + 1) := by rw [HZ2.out, Nat.pow_succ, Nat.mul_comm]
          have HZL := Lib.hid hz2L
          clear hz2L
          have HO7 := Lib.hid hown7
          clear hown7
          go_wp2
          have e7 := HO7.out
          rw [cells81_snoc, HES.out] at e7
          have el : (G ++ (kk, x) :: entTo H a (k + 1)).length = E.length + 1 := by rw [← HES.out]; simp
          refine ⟨⟨k + 1, L + 1, 2 * z, Lib.hid (by have := HL.out; omega), by go_num, by go_num, HZL, HLB.out, HDK, ?_, hB7⟩, by simp only [intOf]; have := HL.out; omega⟩
          rw [el]
          exact e7
        · have hdv0 : ¬ (a + 1) % z = 0 := by rw [← hrr]; exact hdv
          have hdvk : ¬ (a + 1) % 2 ^ (k + 1) = 0 := hzz ▸ hdv0
          have e1 : (rr == 0) = false := beq_eq_false_iff_ne.2 hdv
          have e2 : ((rr : Int) == 0) = false := beq_eq_false_iff_ne.2 (by omega)
          have hrem2 := (rem_nat2 a z).trans hrem
          have hzN : ¬ z = 0 := fun h => absurd hz2 (by rw [h]; decide)
          have hei := entI_end H a k (by omega) (by omega) HK.out hdvk
          have hgr : G ++ (kk, x) :: entTo H a k = grownL H n (i + 1) := by
            show _ = grownL H n i ++ entA H (n + i)
            rw [← HA.out, ← HGL.out, entA, hei, HKK.out, HX.out]
          rw [hgr] at hen
          have HEN := Lib.hid hen
          have HBW := Lib.hid hbl
          have HRR := Lib.hid hrr
          clear hzz hrr hdv hdv0 hdvk hzle hei hgr hen hbl
          go_wp2
          exact ⟨⟨i + 1, a + 1, by go_num, Lib.hid (by have := HA.out; omega), by omega, HEN.out, HBW.out⟩, by simp only [intOf]; omega⟩
    · have hd : decide (a < N) = false := decide_eq_false hlt
      have hdI : decide ((a : Int) < (N : Int)) = false := decide_eq_false (by omega)
      have hin : i = N - n := by have := HA.out; omega
      rw [hin] at hent
      have HEN := Lib.hid hent
      have HBW := Lib.hid hbl
      clear hent hbl hin
      go_wp2
      go_ret
      exact ⟨_, rfl, HEN.out, HBW.out⟩
end Go.Proofs.YtoeibcdnhglobaaDoor.P

/- The contracts of layer 15 as its laws use them. -/
namespace Go.Proofs.YtoeibcdnhglobaaDoor.P
set_option linter.unusedVariables false
set_option linter.unusedSimpArgs false
open Go.RowKit Go.Shelf Go.Proofs.YtoeibcdnhglobaaDoorW.PrintWords Go.Proofs.YtoeibcdnhglobaaDoorW.PrintLast Go.Proofs.YtoeibcdnhglobaaDoorW.PrintMore
open Go.Proofs.YtoeibcdnhglobaaDoor.Pure

theorem peaks_at (L : List ByteArray) (r : Nat) (hr : r ≤ L.length) (hN : L.length ≤ 40) (hs : ∀ s ∈ L, s.size ≤ 32) (A : Option Addr) (c : Nat) (W : World) (hc : L.length ≤ c) (hR : ReadsOf Value.string ByteArray.empty W A L.length L) :
    Calls Tryd.prog 65 #[.slice A r c] W fun e w' => ∃ B k, e = .returned (.slice B (pkN L r).length k) ∧ w'.ownsRow W.heap.size 9 1 (.slice B (pkN L r).length k) (pkN L r).length (encs Value.string (pkN L r)) ∧ Below W.heap.size W w' := by
  have hl : (L.take r).length = r := by rw [List.length_take]; omega
  have h := RPeaks_calls A c (L.take r) (by omega) (fun s hm => hs s (List.mem_of_mem_take hm)) W (by rw [hl]; exact hR.take_ r hr) (by omega)
  rw [hl, pkN_take L r (by omega)] at h
  refine h.mono ?_
  rintro e w' ⟨v, rfl, ho, hb⟩
  obtain ⟨B, k, rfl⟩ := own_slice ho
  exact ⟨B, k, rfl, ho, hb⟩
theorem grow_at (L : List ByteArray) (r : Nat) (hr : r ≤ L.length) (hN : L.length ≤ 40) (hs : ∀ s ∈ L, s.size ≤ 32) (A1 A2 : Option Addr) (c1 c2 : Nat) (W : World) (hp : StrRow W A1 (pkN L r)) (hR : ReadsOf Value.string ByteArray.empty W A2 (L.length - r) (L.drop r)) (hT : PowTab W) (hG : GlobH W) :
    Calls Tryd.prog 66 #[.int .i64 r, .slice A1 (pkN L r).length c1, .slice A2 (L.length - r) c2] W fun e w' => ∃ B1 k1 B2 k2, e = .returned (.tuple #[.slice B1 (grownL L r (L.length - r)).length k1, .slice B2 (pkN L L.length).length k2]) ∧
      w'.ownsRow W.heap.size 131 3 (.slice B1 (grownL L r (L.length - r)).length k1) (grownL L r (L.length - r)).length (cells81 (grownL L r (L.length - r))) ∧
      w'.ownsRow W.heap.size 9 1 (.slice B2 (pkN L L.length).length k2) (pkN L L.length).length (encs Value.string (pkN L L.length)) ∧ Below W.heap.size W w' := by
  refine (NGrow_calls L r hr hN hs A1 A2 c1 c2 W hp hR hT hG).mono ?_
  rintro e w' ⟨v1, v2, rfl, h1, h2, hb⟩
  obtain ⟨B1, k1, rfl⟩ := own_slice h1
  obtain ⟨B2, k2, rfl⟩ := own_slice h2
  exact ⟨B1, k1, B2, k2, rfl, h1, h2, hb⟩
theorem rgrow_at (L : List ByteArray) (r : Nat) (hr : r ≤ L.length) (hN : L.length ≤ 40) (hs : ∀ s ∈ L, s.size ≤ 32) (A : Option Addr) (c : Nat) (W : World) (hc : L.length ≤ c) (hR : ReadsOf Value.string ByteArray.empty W A L.length L) :
    Calls Tryd.prog 68 #[.int .i64 r, .slice A L.length c] W fun e w' => ∃ B k, e = .returned (.slice B (grownL L r (L.length - r)).length k) ∧ EntRow w' B (grownL L r (L.length - r)) ∧ Below W.heap.size W w' := by
  refine (RGrow_calls L r hr hN hs A c W hR hc).mono ?_
  rintro e w' ⟨v1, rfl, h1, hb⟩
  obtain ⟨B1, k1, rfl⟩ := own_slice h1
  exact ⟨B1, k1, rfl, EntRow.of_own h1, hb⟩
/-- A slice l[n:]. -/
theorem drop_at (L : List ByteArray) (r : Nat) (hr : r ≤ L.length) (A : Option Addr) (c : Nat) (hc : L.length ≤ c) :
    ∃ A' : Option Addr, (∀ W : World, (Instr.slice 22 (.slice A L.length c) (some (.int .i64 r)) none none).run Tryd.prog W = .ok (.slice A' (L.length - r) (c - r)) W) ∧
      (∀ w : World, ReadsOf Value.string ByteArray.empty w A L.length L → ReadsOf Value.string ByteArray.empty w A' (L.length - r) (L.drop r)) := by
  obtain ⟨i9, hi9, _, hsz9, _⟩ := info_parts inf9
  obtain ⟨A', h1, h2, _⟩ := print_drop_of (P := Tryd.prog) Value.string ByteArray.empty 22 9 .i64 Tryd.underlying22 hi9 hsz9 A c L (r : Int) (by omega) (by omega) hc
  rw [Int.toNat_natCast, List.length_drop] at h1 h2
  exact ⟨A', h1, h2⟩
/-- A slice l[:n]. -/
theorem take_at (L : List ByteArray) (r : Nat) (hr : r ≤ L.length) (A : Option Addr) (c : Nat) (hc : L.length ≤ c) :
    ∀ W : World, (Instr.slice 22 (.slice A L.length c) none (some (.int .i64 r)) none).run Tryd.prog W = .ok (.slice A r c) W := by
  obtain ⟨i9, hi9, _, hsz9, _⟩ := info_parts inf9
  obtain ⟨h1, _, _⟩ := print_take_of (P := Tryd.prog) Value.string ByteArray.empty 22 9 .i64 Tryd.underlying22 hi9 hsz9 A c L (r : Int) (by omega) (by omega) hc
  have hl : (L.take r).length = r := by rw [List.length_take]; omega
  rw [Int.toNat_natCast, hl] at h1
  exact h1
/-- Any number, brought down to at most N. -/
theorem brought (n : Int) (N : Nat) : ∃ r : Nat, r ≤ N ∧ ((decide (n < 0) = true ∧ 0 ≤ -(n + 1) ∧ -((n + 1).tmod ((N : Int) + 1)) = (r : Int)) ∨ (decide (n < 0) = false ∧ 0 ≤ n ∧ n.tmod ((N : Int) + 1) = (r : Int))) := by
  have key : ∀ z : Int, 0 ≤ z → ∃ r : Nat, r ≤ N ∧ z.tmod ((N : Int) + 1) = (r : Int) := fun z hz => by
    have h3 := Int.emod_nonneg z (show ((N : Int) + 1) ≠ 0 by omega)
    have h4 := Int.emod_lt_of_pos z (show (0 : Int) < (N : Int) + 1 by omega)
    refine ⟨(z % ((N : Int) + 1)).toNat, by omega, ?_⟩
    rw [Int.tmod_eq_emod_of_nonneg hz]
    omega
  by_cases hn : n < 0
  · obtain ⟨r, h1, h2⟩ := key (-(n + 1)) (by omega)
    exact ⟨r, h1, .inl ⟨decide_eq_true hn, by omega, by rw [← Int.neg_tmod]; exact h2⟩⟩
  · obtain ⟨r, h1, h2⟩ := key n (by omega)
    exact ⟨r, h1, .inr ⟨decide_eq_false hn, by omega, h2⟩⟩
end Go.Proofs.YtoeibcdnhglobaaDoor.P
