/- What a tile's width is, and which tiles a tree has, as plain numbers and lists. -/
import Derived.Test.YtoeibcdnhglobaaPx2
namespace Go.Proofs.Ytoeibcdnhglobaa.P
set_option linter.unusedVariables false
set_option linter.unusedSimpArgs false
open Go.RowKit Go.Proofs.YtoeibcdnhglobaaW.PrintWords Go.Proofs.YtoeibcdnhglobaaW.PrintLast Go.Proofs.YtoeibcdnhglobaaW.PrintMore

/-- How many nodes of the level 8 l a tree of n leaves has (of a level below 0 as of 0). -/
def lv (n l : Int) : Int := n / 256 ^ l.toNat
def okT (n l : Int) : Prop := 0 ≤ n ∧ n ≤ 1048576 ∧ -1 ≤ l ∧ l ≤ 5
instance (n l : Int) : Decidable (okT n l) := by unfold okT; infer_instance
/-- How wide a tile is. -/
def Wd (n l i : Int) : Int := if okT n l ∧ 0 ≤ i ∧ i ≤ 1048576 then max 0 (min (lv n l - 256 * i) 256) else 0
/-- How many tiles a level has. -/
def cnt (n l : Int) : Nat := if okT n l then ((lv n l + 255) / 256).toNat else 0
def rowT (n l : Int) : List S30 := (List.range (cnt n l)).map fun (i : Nat) => ⟨l, (i : Int), Wd n l (i : Int)⟩
def tilesT (n : Int) : List S30 := (List.range 7).flatMap fun (j : Nat) => rowT n ((j : Int) - 1)

theorem lv_bd {n l : Int} (h : okT n l) : 0 ≤ lv n l ∧ lv n l ≤ 1048576 := by
  obtain ⟨h1, h2, h3, h4⟩ := h
  unfold lv
  have hp : (1 : Int) ≤ 256 ^ l.toNat := by
    have : 0 < 256 ^ l.toNat := Nat.pow_pos (by decide)
    have h' : ((256 ^ l.toNat : Nat) : Int) = 256 ^ l.toNat := by simp
    omega
  refine ⟨Int.ediv_nonneg h1 (by omega), Int.le_trans (Int.ediv_le_self _ h1) h2⟩
theorem cnt_le (n l : Int) : cnt n l ≤ 4096 := by
  unfold cnt
  split
  · rename_i h
    have := lv_bd h
    omega
  · omega
theorem Wd_bd (n l i : Int) : 0 ≤ Wd n l i ∧ Wd n l i ≤ 256 := by
  unfold Wd
  split <;> omega
theorem Wd_pos_iff (n l : Int) (i : Nat) : 0 < Wd n l i ↔ i < cnt n l := by
  unfold Wd cnt
  by_cases h : okT n l
  · have := lv_bd h
    rw [if_pos h]
    by_cases hi : 0 ≤ (i : Int) ∧ (i : Int) ≤ 1048576
    · rw [if_pos ⟨h, hi⟩]
      omega
    · rw [if_neg (fun hh => hi hh.2)]
      omega
  · rw [if_neg h, if_neg (fun hh => h hh.1)]
    omega
theorem Wd_zero_of_ge (n l : Int) (i : Nat) (h : cnt n l ≤ i) : Wd n l i = 0 := by
  have h1 := Wd_pos_iff n l i
  have := (Wd_bd n l i).1
  omega
theorem rowT_nil {n l : Int} (h : cnt n l = 0) : rowT n l = [] := by simp [rowT, h]
theorem rowT_length (n l : Int) : (rowT n l).length = cnt n l := by simp [rowT]
theorem lv_succ (n l : Int) (h0 : 0 ≤ l) : lv n (l + 1) = lv n l / 256 := by
  unfold lv
  obtain ⟨k, rfl⟩ := Int.eq_ofNat_of_zero_le h0
  have : ((k : Int) + 1).toNat = k + 1 := by omega
  rw [this, Int.toNat_natCast, Int.pow_succ, Int.ediv_ediv_of_nonneg (by
    have : 0 < 256 ^ k := Nat.pow_pos (by decide)
    have h' : ((256 ^ k : Nat) : Int) = 256 ^ k := by simp
    omega)]
theorem cnt_zero_succ {n l : Int} (h0 : 0 ≤ l) (h : cnt n l = 0) : cnt n (l + 1) = 0 := by
  unfold cnt at h ⊢
  by_cases h1 : okT n (l + 1)
  · have h2 : okT n l := ⟨h1.1, h1.2.1, by omega, by have := h1.2.2.2; omega⟩
    rw [if_pos h2] at h
    rw [if_pos h1, lv_succ n l h0]
    have := lv_bd h2
    omega
  · rw [if_neg h1]
/-- What stands ahead of a level. -/
def upTo (n : Int) (j : Nat) : List S30 := (List.range j).flatMap fun (j : Nat) => rowT n ((j : Int) - 1)
theorem upTo_succ (n : Int) (j : Nat) : upTo n (j + 1) = upTo n j ++ rowT n (j - 1) := by simp [upTo, List.range_succ]
theorem upTo_7 (n : Int) : upTo n 7 = tilesT n := rfl
theorem upTo_stop (n : Int) (j : Nat) (h1 : 1 ≤ j) (h7 : j ≤ 7) (h : cnt n ((j : Int) - 1) = 0) : upTo n j = tilesT n := by
  have key : ∀ d, j + d ≤ 7 → upTo n (j + d) = upTo n j ∧ cnt n (((j + d : Nat) : Int) - 1) = 0 := by
    intro d
    induction d with
    | zero => intro _; exact ⟨rfl, h⟩
    | succ d ih =>
      intro hd
      obtain ⟨a, b⟩ := ih (by omega)
      refine ⟨by rw [← Nat.add_assoc, upTo_succ, rowT_nil b, List.append_nil, a], ?_⟩
      have := cnt_zero_succ (n := n) (l := ((j + d : Nat) : Int) - 1) (by omega) b
      rw [show (((j + (d + 1) : Nat) : Int) - 1) = ((j + d : Nat) : Int) - 1 + 1 from by omega]
      exact this
  rw [← upTo_7]
  have := (key (7 - j) (by omega)).1
  rw [show j + (7 - j) = 7 from by omega] at this
  exact this.symm
theorem upTo_out {n : Int} (h : ¬ (0 ≤ n ∧ n ≤ 1048576)) (j : Nat) : upTo n j = [] := by
  have hc : ∀ l, cnt n l = 0 := fun l => by unfold cnt; rw [if_neg (fun hh => h ⟨hh.1, hh.2.1⟩)]
  induction j with
  | zero => rfl
  | succ j ih => rw [upTo_succ, ih, rowT_nil (hc _)]; rfl

/-! ### the printed functions -/
theorem wrap64_id {x : Int} (h0 : -9223372036854775808 ≤ x) (h1 : x ≤ 9223372036854775807) : wrap64 x = x := by unfold wrap64; omega
theorem sized_eq (n : Int) : tiles_sized.f n = some (decide (0 ≤ n ∧ n ≤ 1048576)) := by
  unfold tiles_sized.f
  by_cases h : n ≥ 0
  · rw [if_pos h]; congr 1; simp; omega
  · rw [if_neg h]; congr 1; simp; omega
theorem Width_eq (n l i : Int) : tiles_Width.f n l i = some (Wd n l i) := by
  unfold tiles_Width.f
  rw [sized_eq]
  simp only [Option.bind_some]
  unfold Wd okT
  by_cases hn : 0 ≤ n ∧ n ≤ 1048576
  · rw [if_pos (by simpa using hn)]
    by_cases h1 : l < -1
    · rw [if_pos h1, if_neg (by omega)]
    rw [if_neg h1]
    by_cases h2 : l > 5
    · rw [if_pos h2, if_neg (by omega)]
    rw [if_neg h2]
    by_cases h3 : i < 0
    · rw [if_pos h3, if_neg (by omega)]
    rw [if_neg h3]
    by_cases h4 : i > 1048576
    · rw [if_pos h4, if_neg (by omega)]
    rw [if_neg h4, if_pos (c := (0 ≤ n ∧ n ≤ 1048576 ∧ -1 ≤ l ∧ l ≤ 5) ∧ 0 ≤ i ∧ i ≤ 1048576) (by omega)]
    have hm : mx l 0 = (l.toNat : Int) := by unfold mx; split <;> omega
    rw [hm, wrap64_id (x := 8 * (l.toNat : Int)) (by omega) (by omega), if_pos (by omega)]
    congr 1
    have hs : shr .i64 n (8 * (l.toNat : Int)) = lv n l := by
      unfold shr lv
      have h8 : (8 * (l.toNat : Int)).toNat = 8 * l.toNat := by omega
      rw [h8, Nat.min_eq_left (show 8 * l.toNat ≤ IntKind.i64.bits from by show 8 * l.toNat ≤ 64; omega), Int.pow_mul]
      rfl
    have hb := lv_bd (n := n) (l := l) ⟨hn.1, hn.2, by omega, by omega⟩
    rw [hs, wrap64_id (x := 256 * i) (by omega) (by omega), wrap64_id (by omega) (by omega)]
    unfold mx mn
    split <;> split <;> omega
  · rw [if_neg (by simpa using hn), if_neg (by omega)]
theorem Nodes_eq (d : Nat) : ∀ (k : Nat) (x b j : Int), 0 ≤ x → x ≤ 9223372036854775807 → 0 ≤ j → b ≤ 1000 → b - j = d → d < k → pantileref12_Nodes.l0 k x b j = some (x / 2 ^ d) := by
  induction d with
  | zero =>
    intro k x b j _ _ _ _ hd hk
    obtain ⟨k, rfl⟩ : ∃ m, k = m + 1 := ⟨k - 1, by omega⟩
    simp only [pantileref12_Nodes.l0]
    rw [if_neg (by omega)]
    simp
  | succ d ih =>
    intro k x b j h0 h1 h2 h3 hd hk
    obtain ⟨k, rfl⟩ : ∃ m, k = m + 1 := ⟨k - 1, by omega⟩
    simp only [pantileref12_Nodes.l0]
    rw [if_pos (by omega), Int.tdiv_eq_ediv_of_nonneg h0, wrap64_id (x := x / 2) (by omega) (by omega), wrap64_id (x := j + 1) (by omega) (by omega), ih k (x / 2) b (j + 1) (by omega) (by omega) (by omega) h3 (by omega) (by omega)]
    rw [Int.pow_succ, Int.mul_comm, Int.ediv_ediv_of_nonneg (by decide)]
theorem refWidth_eq (k : Nat) (hk : 60 ≤ k) (n l i : Int) : pantileref12_Width.f k n l i = some (Wd n l i) := by
  obtain ⟨k, rfl⟩ : ∃ m, k = m + 2 := ⟨k - 2, by omega⟩
  have out : ¬ (okT n l ∧ 0 ≤ i ∧ i ≤ 1048576) → pantileref12_Width.j0 (k + 2) n l i true = some (Wd n l i) := fun h => by
    simp only [pantileref12_Width.j0]
    unfold Wd
    rw [if_neg h]
    rfl
  unfold pantileref12_Width.f
  by_cases h1 : n < 0
  · rw [if_pos h1]; exact out (by unfold okT; omega)
  rw [if_neg h1]
  by_cases h2 : n > 1048576
  · rw [if_pos h2]; exact out (by unfold okT; omega)
  rw [if_neg h2]
  by_cases h3 : l < -1
  · rw [if_pos h3]; exact out (by unfold okT; omega)
  rw [if_neg h3]
  by_cases h4 : l > 5
  · rw [if_pos h4]; exact out (by unfold okT; omega)
  rw [if_neg h4]
  by_cases h5 : i < 0
  · rw [if_pos h5]; exact out (by unfold okT; omega)
  rw [if_neg h5]
  by_cases h6 : i > 1048576
  · rw [decide_eq_true h6]; exact out (by unfold okT; omega)
  rw [decide_eq_false h6]
  have ho : okT n l := ⟨by omega, by omega, by omega, by omega⟩
  have hb := lv_bd ho
  have j1 : ∀ m, m = lv n l → pantileref12_Width.j1 (k + 1) i m = some (Wd n l i) := by
    rintro m rfl
    simp only [pantileref12_Width.j1]
    rw [wrap64_id (x := 256 * i) (by omega) (by omega), wrap64_id (by omega) (by omega)]
    unfold Wd
    have hw : (if okT n l ∧ 0 ≤ i ∧ i ≤ 1048576 then max 0 (min (lv n l - 256 * i) 256) else 0) = max 0 (min (lv n l - 256 * i) 256) := if_pos ⟨ho, by omega, by omega⟩
    rw [hw]
    by_cases h8 : lv n l - 256 * i < 0
    · rw [if_pos h8]; congr 1; omega
    · rw [if_neg h8]
      by_cases h9 : lv n l - 256 * i > 256
      · rw [if_pos h9]; congr 1; omega
      · rw [if_neg h9]; congr 1; omega
  simp only [pantileref12_Width.j0]
  rw [if_neg (by simp)]
  by_cases h7 : l > 0
  · rw [if_pos h7, wrap64_id (x := 8 * l) (by omega) (by omega)]
    unfold pantileref12_Nodes.f
    rw [Nodes_eq (8 * l).toNat (k + 1) n (8 * l) 0 (by omega) (by omega) (by omega) (by omega) (by omega) (by omega)]
    simp only [Option.bind_some]
    refine j1 _ ?_
    unfold lv
    rw [show (8 * l).toNat = 8 * l.toNat from by omega, Int.pow_mul]
    rfl
  · rw [if_neg h7]
    refine j1 _ ?_
    unfold lv
    rw [show l.toNat = 0 from by omega]
    simp
theorem rowT_take (n l : Int) (i : Nat) (h : i < cnt n l) : (rowT n l).take (i + 1) = (rowT n l).take i ++ [⟨l, i, Wd n l i⟩] := by
  rw [List.take_add_one]
  congr 1
  simp [rowT, h]
theorem upTo_len (n : Int) (j : Nat) : (upTo n j).length ≤ 4096 * j := by
  induction j with
  | zero => simp [upTo]
  | succ j ih =>
    have := cnt_le n (j - 1)
    rw [upTo_succ, List.length_append, rowT_length]
    omega
theorem refAll_l1 (n : Int) (j : Nat) (hj : j < 7)
    (ho : ∀ k, 200 + 4200 * (7 - (j + 1)) ≤ k → pantileref12_All.l0 k n (upTo n (j + 1)) (((j + 1 : Nat) : Int) - 1) = some (tilesT n)) (d : Nat) :
    ∀ (k i : Nat), i ≤ cnt n ((j : Int) - 1) → cnt n ((j : Int) - 1) - i = d → 201 + 4200 * (7 - (j + 1)) + d ≤ k →
      pantileref12_All.l1 k n (upTo n j ++ (rowT n ((j : Int) - 1)).take i) ((j : Int) - 1) i = some (tilesT n) := by
  have hcl := cnt_le n ((j : Int) - 1)
  have hul := upTo_len n j
  induction d with
  | zero =>
    intro k i hi hd hk
    obtain ⟨k, rfl⟩ : ∃ m, k = m + 1 := ⟨k - 1, by omega⟩
    simp only [pantileref12_All.l1]
    have hz : Wd n ((j : Int) - 1) i = 0 := Wd_zero_of_ge _ _ _ (by omega)
    rw [refWidth_eq k (by omega), hz]
    simp only [Option.bind_some]
    rw [if_neg (by omega), wrap64_id (by omega) (by omega)]
    have := ho k (by omega)
    rw [upTo_succ] at this
    rw [List.take_of_length_le (by rw [rowT_length]; omega)]
    rw [show ((j : Int) - 1 + 1) = (((j + 1 : Nat) : Int) - 1) from by omega]
    exact this
  | succ d ih =>
    intro k i hi hd hk
    obtain ⟨k, rfl⟩ : ∃ m, k = m + 1 := ⟨k - 1, by omega⟩
    simp only [pantileref12_All.l1]
    have hp : 0 < Wd n ((j : Int) - 1) i := (Wd_pos_iff _ _ _).2 (by omega)
    rw [refWidth_eq k (by omega)]
    simp only [Option.bind_some]
    rw [if_pos (by omega), if_pos (by simp only [List.length_append, List.length_take, rowT_length]; omega), wrap64_id (by omega) (by omega)]
    have := ih k (i + 1) (by omega) (by omega) (by omega)
    rw [rowT_take _ _ _ (by omega), ← List.append_assoc] at this
    exact this
theorem refAll_l0 (n : Int) (d : Nat) : ∀ (k j : Nat), j ≤ 7 → 7 - j = d → 200 + 4200 * (7 - j) ≤ k → pantileref12_All.l0 k n (upTo n j) ((j : Int) - 1) = some (tilesT n) := by
  induction d with
  | zero =>
    intro k j h7 hd hk
    obtain rfl : j = 7 := by omega
    obtain ⟨k, rfl⟩ : ∃ m, k = m + 1 := ⟨k - 1, by omega⟩
    simp only [pantileref12_All.l0]
    rw [if_neg (by omega), upTo_7]
  | succ d ih =>
    intro k j h7 hd hk
    obtain ⟨k, rfl⟩ : ∃ m, k = m + 1 := ⟨k - 1, by omega⟩
    simp only [pantileref12_All.l0]
    rw [if_pos (by omega)]
    have hcl := cnt_le n ((j : Int) - 1)
    have := refAll_l1 n j (by omega) (fun k hk => ih k (j + 1) (by omega) (by omega) hk) (cnt n ((j : Int) - 1)) k 0 (by omega) (by omega) (by omega)
    simpa using this
theorem refAll_eq (k : Nat) (hk : 30000 ≤ k) (n : Int) : pantileref12_All.f k n = some (tilesT n) := by
  have := refAll_l0 n 7 k 0 (by omega) (by omega) (by omega)
  unfold pantileref12_All.f
  simpa [upTo] using this
theorem tilesT_len (n : Int) : (tilesT n).length ≤ 28672 := upTo_len n 7
theorem Same_l0 (l : List S30) (hl : l.length ≤ 1000000000) (d : Nat) : ∀ (k i : Nat), i ≤ l.length → l.length - i = d → d < k → pantileref12_Same.l0 k l l i = some true := by
  induction d with
  | zero =>
    intro k i hi hd hk
    obtain ⟨k, rfl⟩ : ∃ m, k = m + 1 := ⟨k - 1, by omega⟩
    simp only [pantileref12_Same.l0]
    rw [if_neg (by omega)]
  | succ d ih =>
    intro k i hi hd hk
    obtain ⟨k, rfl⟩ : ∃ m, k = m + 1 := ⟨k - 1, by omega⟩
    simp only [pantileref12_Same.l0]
    rw [if_pos (by omega), if_pos (by omega), if_pos (by omega), if_neg (by simp), wrap64_id (by omega) (by omega)]
    exact ih k (i + 1) (by omega) (by omega) (by omega)
theorem Same_refl (k : Nat) (l : List S30) (hl : l.length ≤ 1000000000) (hk : l.length < k) : pantileref12_Same.f k l l = some true := by
  unfold pantileref12_Same.f
  rw [if_pos rfl]
  exact Same_l0 l hl l.length k 0 (by omega) (by omega) hk
end Go.Proofs.Ytoeibcdnhglobaa.P
