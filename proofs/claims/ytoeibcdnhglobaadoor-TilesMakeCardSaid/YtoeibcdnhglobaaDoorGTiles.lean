/- tiles.All, Width, Place and the layer's own examples: seat A's texts at this seat's numbers. Written by wip/tools/porttiles.py. -/
import Derived.KernelRfl
import Derived.Test.YtoeibcdnhglobaaDoorTx1
import Derived.Test.YtoeibcdnhglobaaDoorGChunk
namespace Go.Proofs.YtoeibcdnhglobaaDoor.P
set_option linter.unusedVariables false
set_option linter.unusedSimpArgs false
open Go.RowKit Go.Shelf Go.Proofs.YtoeibcdnhglobaaDoorW.PrintWords Go.Proofs.YtoeibcdnhglobaaDoorW.PrintLast Go.Proofs.YtoeibcdnhglobaaDoorW.PrintMore
/-- A tile. -/
structure S69 where
  f0 : Int
  f1 : Int
  f2 : Int
theorem info69 : (Tryd.prog.info? 69).map (fun i => (i.zero, i.size, i.bytes)) = some (some (.agg #[(.int .i64 0), (.int .i64 0), (.int .i64 0)]), 3, 24) := by kernel_rfl

/-- How many nodes of the level 8 l a tree of n leaves has (of a level below 0 as of 0). -/
def lv (n l : Int) : Int := n / 256 ^ l.toNat
def okT (n l : Int) : Prop := 0 ≤ n ∧ n ≤ 1048576 ∧ -1 ≤ l ∧ l ≤ 5
instance (n l : Int) : Decidable (okT n l) := by unfold okT; infer_instance
/-- How wide a tile is. -/
def Wd (n l i : Int) : Int := if okT n l ∧ 0 ≤ i ∧ i ≤ 1048576 then max 0 (min (lv n l - 256 * i) 256) else 0
/-- How many tiles a level has. -/
def cnt (n l : Int) : Nat := if okT n l then ((lv n l + 255) / 256).toNat else 0
def rowT (n l : Int) : List S69 := (List.range (cnt n l)).map fun (i : Nat) => ⟨l, (i : Int), Wd n l (i : Int)⟩
def tilesT (n : Int) : List S69 := (List.range 7).flatMap fun (j : Nat) => rowT n ((j : Int) - 1)

theorem lv_bd {n l : Int} (h : okT n l) : 0 ≤ lv n l ∧ lv n l ≤ 1048576 := by
  obtain ⟨h1, h2, h3, h4⟩ := h
  unfold lv
  have hp : (1 : Int) ≤ 256 ^ l.toNat := by
    have : 0 < 256 ^ l.toNat := Nat.pow_pos (by decide)
    have h' : ((256 ^ l.toNat : Nat) : Int) = 256 ^ l.toNat := by simp
    omega
  refine ⟨Int.ediv_nonneg h1 (by omega), Int.le_trans (Int.ediv_le_self _ h1) h2⟩
theorem cnt_le (n l : Int) : cnt n l ≤ 4096 := by
  unfold cnt
  split
  · rename_i h
    have := lv_bd h
    omega
  · omega
theorem Wd_bd (n l i : Int) : 0 ≤ Wd n l i ∧ Wd n l i ≤ 256 := by
  unfold Wd
  split <;> omega
theorem Wd_pos_iff (n l : Int) (i : Nat) : 0 < Wd n l i ↔ i < cnt n l := by
  unfold Wd cnt
  by_cases h : okT n l
  · have := lv_bd h
    rw [if_pos h]
    by_cases hi : 0 ≤ (i : Int) ∧ (i : Int) ≤ 1048576
    · rw [if_pos ⟨h, hi⟩]
      omega
    · rw [if_neg (fun hh => hi hh.2)]
      omega
  · rw [if_neg h, if_neg (fun hh => h hh.1)]
    omega
theorem Wd_zero_of_ge (n l : Int) (i : Nat) (h : cnt n l ≤ i) : Wd n l i = 0 := by
  have h1 := Wd_pos_iff n l i
  have := (Wd_bd n l i).1
  omega
theorem rowT_nil {n l : Int} (h : cnt n l = 0) : rowT n l = [] := by simp [rowT, h]
theorem rowT_length (n l : Int) : (rowT n l).length = cnt n l := by simp [rowT]
theorem lv_succ (n l : Int) (h0 : 0 ≤ l) : lv n (l + 1) = lv n l / 256 := by
  unfold lv
  obtain ⟨k, rfl⟩ := Int.eq_ofNat_of_zero_le h0
  have : ((k : Int) + 1).toNat = k + 1 := by omega
  rw [this, Int.toNat_natCast, Int.pow_succ, Int.ediv_ediv_of_nonneg (by
    have : 0 < 256 ^ k := Nat.pow_pos (by decide)
    have h' : ((256 ^ k : Nat) : Int) = 256 ^ k := by simp
    omega)]
theorem cnt_zero_succ {n l : Int} (h0 : 0 ≤ l) (h : cnt n l = 0) : cnt n (l + 1) = 0 := by
  unfold cnt at h ⊢
  by_cases h1 : okT n (l + 1)
  · have h2 : okT n l := ⟨h1.1, h1.2.1, by omega, by have := h1.2.2.2; omega⟩
    rw [if_pos h2] at h
    rw [if_pos h1, lv_succ n l h0]
    have := lv_bd h2
    omega
  · rw [if_neg h1]
/-- What stands ahead of a level. -/
def upTo (n : Int) (j : Nat) : List S69 := (List.range j).flatMap fun (j : Nat) => rowT n ((j : Int) - 1)
theorem upTo_succ (n : Int) (j : Nat) : upTo n (j + 1) = upTo n j ++ rowT n (j - 1) := by simp [upTo, List.range_succ]
theorem upTo_7 (n : Int) : upTo n 7 = tilesT n := rfl
theorem upTo_stop (n : Int) (j : Nat) (h1 : 1 ≤ j) (h7 : j ≤ 7) (h : cnt n ((j : Int) - 1) = 0) : upTo n j = tilesT n := by
  have key : ∀ d, j + d ≤ 7 → upTo n (j + d) = upTo n j ∧ cnt n (((j + d : Nat) : Int) - 1) = 0 := by
    intro d
    induction d with
    | zero => intro _; exact ⟨rfl, h⟩
    | succ d ih =>
      intro hd
      obtain ⟨a, b⟩ := ih (by omega)
      refine ⟨by rw [← Nat.add_assoc, upTo_succ, rowT_nil b, List.append_nil, a], ?_⟩
      have := cnt_zero_succ (n := n) (l := ((j + d : Nat) : Int) - 1) (by omega) b
      rw [show (((j + (d + 1) : Nat) : Int) - 1) = ((j + d : Nat) : Int) - 1 + 1 from by omega]
      exact this
  rw [← upTo_7]
  have := (key (7 - j) (by omega)).1
  rw [show j + (7 - j) = 7 from by omega] at this
  exact this.symm
theorem upTo_out {n : Int} (h : ¬ (0 ≤ n ∧ n ≤ 1048576)) (j : Nat) : upTo n j = [] := by
  have hc : ∀ l, cnt n l = 0 := fun l => by unfold cnt; rw [if_neg (fun hh => h ⟨hh.1, hh.2.1⟩)]
  induction j with
  | zero => rfl
  | succ j ih => rw [upTo_succ, ih, rowT_nil (hc _)]; rfl

/-! ### the printed functions -/
theorem sized_eq (n : Int) : T.tiles_sized.f n = some (decide (0 ≤ n ∧ n ≤ 1048576)) := by
  unfold T.tiles_sized.f
  by_cases h : n ≥ 0
  · rw [if_pos h]; congr 1; simp; omega
  · rw [if_neg h]; congr 1; simp; omega
theorem Width_eq (n l i : Int) : T.tiles_Width.f n l i = some (Wd n l i) := by
  unfold T.tiles_Width.f
  rw [sized_eq]
  simp only [Option.bind_some]
  unfold Wd okT
  by_cases hn : 0 ≤ n ∧ n ≤ 1048576
  · rw [if_pos (by simpa using hn)]
    by_cases h1 : l < -1
    · rw [if_pos h1, if_neg (by omega)]
    rw [if_neg h1]
    by_cases h2 : l > 5
    · rw [if_pos h2, if_neg (by omega)]
    rw [if_neg h2]
    by_cases h3 : i < 0
    · rw [if_pos h3, if_neg (by omega)]
    rw [if_neg h3]
    by_cases h4 : i > 1048576
    · rw [if_pos h4, if_neg (by omega)]
    rw [if_neg h4, if_pos (c := (0 ≤ n ∧ n ≤ 1048576 ∧ -1 ≤ l ∧ l ≤ 5) ∧ 0 ≤ i ∧ i ≤ 1048576) (by omega)]
    have hm : mx l 0 = (l.toNat : Int) := by unfold mx; split <;> omega
    rw [hm, wrap64_id (x := 8 * (l.toNat : Int)) (by omega) (by omega), if_pos (by omega)]
    congr 1
    have hs : shr .i64 n (8 * (l.toNat : Int)) = lv n l := by
      unfold shr lv
      have h8 : (8 * (l.toNat : Int)).toNat = 8 * l.toNat := by omega
      rw [h8, Nat.min_eq_left (show 8 * l.toNat ≤ IntKind.i64.bits from by show 8 * l.toNat ≤ 64; omega), Int.pow_mul]
      rfl
    have hb := lv_bd (n := n) (l := l) ⟨hn.1, hn.2, by omega, by omega⟩
    rw [hs, wrap64_id (x := 256 * i) (by omega) (by omega), wrap64_id (by omega) (by omega)]
    unfold mx mn
    split <;> split <;> omega
  · rw [if_neg (by simpa using hn), if_neg (by omega)]
theorem rowT_take (n l : Int) (i : Nat) (h : i < cnt n l) : (rowT n l).take (i + 1) = (rowT n l).take i ++ [⟨l, i, Wd n l i⟩] := by
  rw [List.take_add_one]
  congr 1
  simp [rowT, h]
theorem upTo_len (n : Int) (j : Nat) : (upTo n j).length ≤ 4096 * j := by
  induction j with
  | zero => simp [upTo]
  | succ j ih =>
    have := cnt_le n (j - 1)
    rw [upTo_succ, List.length_append, rowT_length]
    omega
theorem tilesT_len (n : Int) : (tilesT n).length ≤ 28672 := upTo_len n 7
attribute [local go_sem] Oper.semAt_some

def encT (x : S69) : Value := .agg #[.int .i64 x.f0, .int .i64 x.f1, .int .i64 x.f2]

theorem LE6 (n lev : Int) (h : lev = -1 ∨ 0 < Wd n lev 0) : lev ≤ 5 := by
  rcases h with h | h
  · omega
  · unfold Wd at h
    split at h
    · rename_i hh
      exact hh.1.2.2.2
    · omega
theorem upTo_pre (n : Int) (j : Nat) (h : j ≤ 7) : upTo n j <+: tilesT n := by
  have key : ∀ d, upTo n j <+: upTo n (j + d) := by
    intro d
    induction d with
    | zero => exact List.prefix_refl _
    | succ d ih => rw [← Nat.add_assoc, upTo_succ]; exact ih.trans (List.prefix_append _ _)
  have := key (7 - j)
  rwa [show j + (7 - j) = 7 from by omega, upTo_7] at this
theorem inPre {n lev : Int} (j i : Nat) (h : lev = (j : Int) - 1) (h6 : j ≤ 6) (hi : i < cnt n lev) : upTo n j ++ (rowT n lev).take i ++ [⟨lev, i, Wd n lev i⟩] <+: tilesT n := by
  refine List.IsPrefix.trans ?_ (upTo_pre n (j + 1) (by omega))
  rw [upTo_succ, ← h, List.append_assoc, ← rowT_take _ _ _ hi]
  exact (List.prefix_append_right_inj _).2 (List.take_prefix _ _)
theorem inLen {n lev : Int} (j i : Nat) (h : lev = (j : Int) - 1) (h6 : j ≤ 6) (hi : i < cnt n lev) : (upTo n j ++ (rowT n lev).take i).length < (tilesT n).length := by
  have := (inPre j i h h6 hi).length_le
  rw [List.length_append, List.length_singleton] at this
  omega
theorem allOf {n lev : Int} (j : Nat) (h : lev = (j : Int) - 1) (h1 : -1 ≤ lev) (h2 : lev ≤ 6) (hm : ¬ lev = -1) (hp : ¬ 0 < Wd n lev 0) : upTo n j = tilesT n := by
  refine upTo_stop n j (by omega) (by omega) ?_
  rw [← h]
  have := Wd_pos_iff n lev 0
  have h3 : ((0 : Nat) : Int) = 0 := rfl
  rw [h3] at this
  omega
theorem Width_in {n : Nat} (a b c : Int) (w : World) : CallsIn Fence.wide n Tryd.prog 57 #[.int .i64 a, .int .i64 b, .int .i64 c] w fun e w' => e = .returned (.int .i64 (Wd a b c)) ∧ Below w.heap.size w w' :=
  callsIn_wide.2 ((T.tiles_Width.calls a b c (Wd a b c) w (Width_eq a b c)).mono fun _ _ ⟨he, hd⟩ => ⟨he, hd.below⟩)

/-- A box holds what it held. -/
def KpC (b : Nat) (W W' : World) : Prop := ∀ v, W.cell? ⟨b, 0, none⟩ = some v → W'.cell? ⟨b, 0, none⟩ = some v
theorem KpC.of_below {b n₀ : Nat} {W W' : World} (h : Below n₀ W W') (hb : b < n₀) : KpC b W W' := fun _ hv => (h.cell (p := ⟨b, 0, none⟩) hb).trans hv
theorem KpC.t {b : Nat} {A B C : World} (h : KpC b A B) (k : KpC b B C) : KpC b A C := fun v hv => k v (h v hv)
theorem KpC.b {b B : Nat} (W : World) (l : Nat) (o o' : Obj) (_ : B ≤ l) (hl : W.heap[l]? = some o) (ho : o.isCells = false) (_ : o.isWalk = false) : KpC b W (W.putObj l o') := fun _ hv =>
  cell_kept hv (grownBy_putObj' W l o') (fun r e => by cases e; exact ⟨o, hl, ho⟩)

set_option maxRecDepth 100000 in
set_option maxHeartbeats 4000000 in
theorem all1_in (m : Nat) (hm : 1 ≤ m) (l Bn : Nat) (n : Int) (J Jx : List S69 → World → Prop)
    (hJ : ∀ s W W', J s W → Below W.heap.size W W' → J s W')
    (hY : ∀ pre x W, J pre W → pre.length < (tilesT n).length → YieldAt Fence.wide (m - 1) Tryd.prog l #[encT x] W fun e W' =>
      (e = .returned (.bool true) ∧ J (pre ++ [x]) W' ∧ KpC Bn W W') ∨ (e = .returned (.bool false) ∧ Jx (pre ++ [x]) W'))
    (W : World) (hBn : W.cell? ⟨Bn, 0, none⟩ = some (.int .i64 n)) (h0 : J [] W) :
    CallsIn Fence.wide m Tryd.prog 141 #[.func (.yield l) #[] #[], .pointer (some ⟨Bn, 0, none⟩)] W fun e W' => (∃ v, e = .returned v) ∧
      ((∃ ys, ys = tilesT n ∧ J ys W') ∨ (∃ pre, pre <+: tilesT n ∧ Jx pre W')) := by
  refine callsIn_of_wp Tryd.func141 rfl trivial ?_ rfl
  simp only [Tryd.ntmps141, List.size_toArray, List.length_cons, List.length_nil, Nat.reduceAdd, Nat.reduceSub, Array.replicate_succ, Array.replicate_zero, List.push_toArray, List.append_toArray, List.nil_append, List.cons_append]
  gi_wp2
  gi_loopw [3] (fun v3 wr => ∃ (lev : Int) (j : Nat), v3 = .int .i64 lev ∧ Hid (lev = (j : Int) - 1) ∧ -1 ≤ lev ∧ lev ≤ 6 ∧ J (upTo n j) wr ∧ wr.cell? ⟨Bn, 0, none⟩ = some (.int .i64 n))
    (fun v3 _ => (7 - intOf v3).toNat)
  case atStart => exact ⟨-1, 0, rfl, (by omega : (-1 : Int) = ((0 : Nat) : Int) - 1), by omega, by omega, h0, hBn⟩
  case round =>
    obtain ⟨lev, j, rfl, HL, hl1, hl2, hJs, hbx⟩ := hrel
    by_cases hm1 : lev = -1
    · have hm2 : (lev == -1) = true := by simpa using hm1
      have HC : Hid (lev = -1 ∨ 0 < Wd n lev 0) := Lib.hid (.inl hm1)
      clear hm1
      have hJq := hJs
      have hbq := hbx
      clear hJs hbx
      gi_wp2
      refine ⟨trivial, ?_⟩
      gi_wp2
      gi_loopw [4] (fun v4 wr => ∃ (i : Nat), v4 = .int .i64 i ∧ i ≤ cnt n lev ∧ J (upTo n j ++ (rowT n lev).take i) wr ∧ wr.cell? ⟨Bn, 0, none⟩ = some (.int .i64 n))
        (fun v4 _ => cnt n lev + 1 - (intOf v4).toNat)
      case atStart => exact ⟨0, rfl, by omega, by simpa using hJq, hbq⟩
      case round =>
        clear hJq hbq
        obtain ⟨i, rfl, hi, hJi, hbi⟩ := hrel
        have hcl := cnt_le n lev
        by_cases hlt : i < cnt n lev
        · have hw0 : 0 < Wd n lev i := (Wd_pos_iff _ _ _).2 hlt
          have hw1 : (Wd n lev (i : Int) == 0) = false := by simp; omega
          clear hw0
          gi_wp2_with (refine ⟨trivial, ?_⟩; gi_at_call 57; refine (Width_in _ _ _ _).mono ?_; rintro e w' ⟨rfl, hb1⟩; have hJ1 := hJ _ _ _ hJi hb1; have hn1 := pw_cell_below hb1 hbi; obtain ⟨fn, tmps, assign, body, hy, hR⟩ := hY _ (⟨lev, i, Wd n lev i⟩ : S69) w' hJ1 (inLen j i HL.out (by have := LE6 _ _ HC.out; have := HL.out; omega) hlt); dsimp only [encT] at hy)
          refine hR.mono ?_
          rintro e W3 (⟨rfl, hJ3, hk3⟩ | ⟨rfl, hJx3⟩)
          · gi_wp2
            go_roundw
            case rel => exact ⟨i + 1, by go_num, by omega, by rw [rowT_take _ _ _ hlt, ← List.append_assoc]; exact hJ3, hk3 _ hn1⟩
            case measure => simp [intOf]; omega
          · gi_wp2
            refine bodyPost_ret (results_none rfl _ _ _) rfl ?_
            exact ⟨⟨_, rfl⟩, .inr ⟨_, inPre j i HL.out (by have := LE6 _ _ HC.out; have := HL.out; omega) hlt, hJx3⟩⟩
        · have hw1 : (Wd n lev (i : Int) == 0) = true := by simp; exact Wd_zero_of_ge _ _ _ (by omega)
          gi_wp2_with (refine ⟨trivial, ?_⟩; gi_at_call 57; refine (Width_in _ _ _ _).mono ?_; rintro e w' ⟨rfl, hb1⟩; have hJ1 := hJ _ _ _ hJi hb1; have hn1 := pw_cell_below hb1 hbi)
          go_roundw
          case rel => exact ⟨lev + 1, j + 1, rfl, Lib.hid (by have := HL.out; omega), by omega, by have := LE6 _ _ HC.out; omega, by rw [upTo_succ, ← HL.out, ← List.take_of_length_le (l := rowT n lev) (i := i) (by rw [rowT_length]; omega)]; exact hJ1, hn1⟩
          case measure => simp [intOf]; have := LE6 _ _ HC.out; omega
    · have hm2 : (lev == -1) = false := by simpa using hm1
      clear hm1
      by_cases hp : 0 < Wd n lev 0
      · have HC : Hid (lev = -1 ∨ 0 < Wd n lev 0) := Lib.hid (.inr hp)
        have hpd : decide (0 < Wd n lev 0) = true := decide_eq_true hp
        clear hp
        gi_wp2_with (refine ⟨trivial, ?_⟩; gi_at_call 57; refine (Width_in _ _ _ _).mono ?_; rintro e w' ⟨rfl, hb1⟩; have hJq := hJ _ _ _ hJs hb1; have hbq := pw_cell_below hb1 hbx; clear hJs hbx)
        gi_loopw [4] (fun v4 wr => ∃ (i : Nat), v4 = .int .i64 i ∧ i ≤ cnt n lev ∧ J (upTo n j ++ (rowT n lev).take i) wr ∧ wr.cell? ⟨Bn, 0, none⟩ = some (.int .i64 n))
          (fun v4 _ => cnt n lev + 1 - (intOf v4).toNat)
        case atStart => exact ⟨0, rfl, by omega, by simpa using hJq, hbq⟩
        case round =>
          clear hJq hbq
          obtain ⟨i, rfl, hi, hJi, hbi⟩ := hrel
          have hcl := cnt_le n lev
          by_cases hlt : i < cnt n lev
          · have hw0 : 0 < Wd n lev i := (Wd_pos_iff _ _ _).2 hlt
            have hw1 : (Wd n lev (i : Int) == 0) = false := by simp; omega
            clear hw0
            gi_wp2_with (refine ⟨trivial, ?_⟩; gi_at_call 57; refine (Width_in _ _ _ _).mono ?_; rintro e w' ⟨rfl, hb1⟩; have hJ1 := hJ _ _ _ hJi hb1; have hn1 := pw_cell_below hb1 hbi; obtain ⟨fn, tmps, assign, body, hy, hR⟩ := hY _ (⟨lev, i, Wd n lev i⟩ : S69) w' hJ1 (inLen j i HL.out (by have := LE6 _ _ HC.out; have := HL.out; omega) hlt); dsimp only [encT] at hy)
            refine hR.mono ?_
            rintro e W3 (⟨rfl, hJ3, hk3⟩ | ⟨rfl, hJx3⟩)
            · gi_wp2
              go_roundw
              case rel => exact ⟨i + 1, by go_num, by omega, by rw [rowT_take _ _ _ hlt, ← List.append_assoc]; exact hJ3, hk3 _ hn1⟩
              case measure => simp [intOf]; omega
            · gi_wp2
              refine bodyPost_ret (results_none rfl _ _ _) rfl ?_
              exact ⟨⟨_, rfl⟩, .inr ⟨_, inPre j i HL.out (by have := LE6 _ _ HC.out; have := HL.out; omega) hlt, hJx3⟩⟩
          · have hw1 : (Wd n lev (i : Int) == 0) = true := by simp; exact Wd_zero_of_ge _ _ _ (by omega)
            gi_wp2_with (refine ⟨trivial, ?_⟩; gi_at_call 57; refine (Width_in _ _ _ _).mono ?_; rintro e w' ⟨rfl, hb1⟩; have hJ1 := hJ _ _ _ hJi hb1; have hn1 := pw_cell_below hb1 hbi)
            go_roundw
            case rel => exact ⟨lev + 1, j + 1, rfl, Lib.hid (by have := HL.out; omega), by omega, by have := LE6 _ _ HC.out; omega, by rw [upTo_succ, ← HL.out, ← List.take_of_length_le (l := rowT n lev) (i := i) (by rw [rowT_length]; omega)]; exact hJ1, hn1⟩
            case measure => simp [intOf]; have := LE6 _ _ HC.out; omega
  
      · have hpd : decide (0 < Wd n lev 0) = false := decide_eq_false hp
        gi_wp2_with (refine ⟨trivial, ?_⟩; gi_at_call 57; refine (Width_in _ _ _ _).mono ?_; rintro e w' ⟨rfl, hb1⟩; have hJq := hJ _ _ _ hJs hb1; clear hJs hbx)
        go_end0
        exact ⟨⟨_, rfl⟩, .inl ⟨_, allOf j HL.out hl1 hl2 (by simpa using hm2) (by omega), hJq⟩⟩

theorem all_stops (m : Nat) (hm : 1 ≤ m) (Bn : Nat) (n : Int) (w : World) (hBn : Bn < w.heap.size) (hc : w.cell? ⟨Bn, 0, none⟩ = some (.int .i64 n)) :
    SeqStopsK Fence.wide m Tryd.prog 141 #[.pointer (some ⟨Bn, 0, none⟩)] (fun x : S69 => #[encT x]) (KpC Bn) (fun ys => ys = tilesT n) (fun pre => pre <+: tilesT n) (tilesT n).length w := fun l J Jx W hW hJ _ hY h0 => by
  have hc' : W.cell? ⟨Bn, 0, none⟩ = some (.int .i64 n) := (hW.cell (p := ⟨Bn, 0, none⟩) hBn).trans hc
  exact all1_in m hm l Bn n J Jx (fun s A B hs hb => hJ s A B none hs (grown_of_below hb none) (fun r e => by cases e)) hY W hc' h0

set_option maxHeartbeats 1000000 in
theorem all_in {m : Nat} (n : Int) (w : World) :
    CallsIn Fence.wide m Tryd.prog 119 #[.int .i64 n] w fun e w' => e = .returned (.func (.func 141) #[] #[.pointer (some ⟨w.heap.size, 0, none⟩)]) ∧ w' = w.alloc (.cells #[.int .i64 n] 3) := by
  refine callsIn_of_wp Tryd.func119 rfl trivial ?_ rfl
  simp only [Tryd.ntmps119, List.size_toArray, List.length_cons, List.length_nil, Nat.reduceAdd, Nat.reduceSub, Array.replicate_succ, Array.replicate_zero, List.push_toArray, List.append_toArray, List.nil_append, List.cons_append]
  gi_wp2
  go_ret
  exact ⟨rfl, rfl⟩

def cellsT (x : S69) : List Value := [.int .i64 x.f0, .int .i64 x.f1, .int .i64 x.f2]
/-- A loop variable of a tile's type: its block. -/
def BoxT (W : World) (B : Nat) (x : S69) : Prop := W.heap[B]? = some (.cells #[.int .i64 x.f0, .int .i64 x.f1, .int .i64 x.f2] 69 (0, 0))
theorem BoxT.cells {W : World} {B : Nat} {x : S69} (h : BoxT W B x) : W.cell? ⟨B, 0, none⟩ = some (.int .i64 x.f0) ∧ W.cell? ⟨B, 1, none⟩ = some (.int .i64 x.f1) ∧ W.cell? ⟨B, 2, none⟩ = some (.int .i64 x.f2) := by
  simp [World.cell?, show W.heap[B]? = _ from h]
theorem boxT_own (B : Nat) (x : S69) : Own (fun (_ : Unit) W => BoxT W B x) := fun _ X Y row hs hg hrow => by
  have hlt : B < X.heap.size := (Array.getElem?_eq_some_iff.1 hs).1
  refine (hg.block B hlt (fun e' => ?_)).trans hs
  obtain ⟨o, ho, hc⟩ := hrow B e'.symm
  rw [show X.heap[B]? = _ from hs] at ho; cases ho; cases hc

set_option maxRecDepth 100000 in
set_option maxHeartbeats 4000000 in
theorem appendSeq_in (m : Nat) (hm : 4 ≤ m) (Bn : Nat) (n : Int) (w : World) (hBn : Bn < w.heap.size) (hc : w.cell? ⟨Bn, 0, none⟩ = some (.int .i64 n)) :
    CallsIn Fence.wide m Tryd.prog 140 #[.slice none 0 0, .func (.func 141) #[] #[.pointer (some ⟨Bn, 0, none⟩)]] w fun e W' => ∃ v, e = .returned v ∧ W'.ownsRow w.heap.size 69 3 v (tilesT n).length ((tilesT n).flatMap cellsT) ∧ Below w.heap.size w W' := by
  have h1 : 1 ≤ m := by omega
  obtain ⟨i0, hi, hz0, hz1, hz2⟩ := info_parts info69
  have hlen := tilesT_len n
  have hu30 := Tryd.underlying69
  refine callsIn_of_wp_marks Tryd.func140 rfl trivial ?_ rfl
  simp only [Tryd.ntmps140, List.size_toArray, List.length_cons, List.length_nil, Nat.reduceAdd, Nat.reduceSub, Array.replicate_succ, Array.replicate_zero, List.push_toArray, List.append_toArray, List.nil_append, List.cons_append]
  gi_wp2
  have bO := Boxed.new w 109 (.slice none 0 0)
  have hB0 : Below w.heap.size w (w.alloc (.cells #[.slice none 0 0] 109)) := (Below.refl _ w).alloc (Nat.le_refl _) _
  have hc0 : (w.alloc (.cells #[.slice none 0 0] 109)).cell? ⟨Bn, 0, none⟩ = some (.int .i64 n) := (hB0.cell (p := ⟨Bn, 0, none⟩) hBn).trans hc
  refine wpIn_rangeFunc_ownH rfl h1 (gf := 141) (lb := #[.pointer (some ⟨Bn, 0, none⟩)]) rfl trivial (enters_of Tryd.func141 (by kernel_rfl) rfl)
    (all_stops (m - 1) (by omega) Bn n _ (by simp; omega) hc0) KpC.t KpC.b (Below.refl _ _) (fun _ => rfl)
    (fun pre W => (∃ v, Boxed W w.heap.size 109 v ∧ W.ownsRow w.heap.size 69 3 v pre.length (pre.flatMap cellsT) ∧ True) ∧ Below w.heap.size w W)
    (fun _ _ _ => False)
    (OwnFrom.and (Own.from (holdsRow_own w.heap.size w.heap.size 109 69 3 (fun (pre : List S69) => pre.length) (fun (pre : List S69) => pre.flatMap cellsT) (fun _ _ => True)) _) (ownFrom_below (Nat.le_refl _) (by simp)))
    (fun _ _ _ _ _ hs _ _ => hs)
    ⟨⟨_, bO, World.ownsRow_nil _ _ _ _, trivial⟩, hB0⟩
    (fun x a' W => ∃ Bx, w.heap.size < Bx ∧ BoxT W Bx x ∧ a' = { tmps := #[.slice none 0 0, .func (.func 141) #[] #[.pointer (some ⟨Bn, 0, none⟩)], .pointer (some ⟨w.heap.size, 0, none⟩), undef, .slice none 0 0, .pointer (some ⟨Bx, 0, none⟩), .func (.func 141) #[] #[.pointer (some ⟨Bn, 0, none⟩)], encT x, undef, undef, undef, undef, undef], defers := [] })
    (fun x a' => by
      rintro _ X Y row ⟨Bx, hBx, hb, ha⟩ hg hrow
      exact ⟨Bx, hBx, (boxT_own Bx x).from _ () X Y row hb hg hrow, ha⟩) ?assign ?body ?done ?stop
  case assign =>
    rintro l pre x W K ⟨⟨v, hv, hrow, _⟩, hB⟩ hK
    have hvl := hv.lt
    unfold encT
    gi_wp2
    exact hK _ _ ((KeepsOthers.alloc _ _).from _) (KpC.of_below ((Below.refl _ W).alloc hB.size _) hBn) ⟨⟨v, hv.alloc _, hrow.alloc _, trivial⟩, hB.alloc hB.size _⟩ ⟨W.heap.size, hvl, World.alloc_heap_new W _, rfl⟩
  case body =>
    rintro l pre x a' W hl ⟨r, hr⟩ ⟨⟨v, hv, hrow, _⟩, hB⟩ ⟨Bx, hBx, bX, rfl⟩ hlt
    have hcv := hv.cell
    obtain ⟨hx0, hx1, hx2⟩ := bX.cells
    clear hr bX hl
    unfold encT
    gi_wp2_with (gi_at_builtin; refine wpListIn_append_own _ rfl _ _ 109 rfl w.heap.size 69 i0 (.agg #[.int .i64 0, .int .i64 0, .int .i64 0]) 3 24 Tryd.underlying109 hi hz0 hz1 hz2 rfl (by decide) _ _ _ rfl (hrow.alloc _) ⟨W.heap.size, 0, none⟩ 1 1 (cellsT x) rfl rfl (World.news_of_block (cs := #[.int .i64 x.f0, .int .i64 x.f1, .int .i64 x.f2]) (t := 69) (fr := (0, 0)) (heap_alloc_new W _)) (by simp [cellsT, Value.oneCell']) (by simp only [maxLen]; omega) (by omega) (by have := hB.size; simp; omega) ?_; intro v' w1 hown' hgrow _; obtain ⟨g', cap', rfl⟩ := ownsRow_succ hown'; obtain ⟨hv1, hv2, hr2, hk2, hb2⟩ := hv.appended (by decide) hrow hB.size (Nat.le_refl _) hown' hgrow; have hc1 := hv1.cell; have hf1 := hv1.frozen)
    exact ⟨hk2.from _, KpC.of_below hb2 hBn, ⟨⟨_, hv2, by simpa using hr2, trivial⟩, hB.trans hb2⟩⟩
  case done =>
    rintro D ys W hD rfl ⟨⟨v, hv, hrow, _⟩, hB⟩ hK
    have hcv := hv.cell
    gi_wp2
    refine ⟨by simp, .inl ⟨_, _, rfl, run_takeDeferred hK, ?_⟩⟩
    exact ⟨_, results_tmp rfl _ _ _, v, rfl, ownsRow_putObj hrow _ hK rfl, hB.trans (belowK_b (w := w) (Nat.le_refl _) W D _ _ (by simp at hD; omega) hK rfl rfl)⟩
  case stop =>
    rintro D c pre W _ _ h _
    exact h.elim

set_option maxHeartbeats 1000000 in
theorem collect_in (m : Nat) (hm : 5 ≤ m) (Bn : Nat) (n : Int) (w : World) (hBn : Bn < w.heap.size) (hc : w.cell? ⟨Bn, 0, none⟩ = some (.int .i64 n)) :
    CallsIn Fence.wide m Tryd.prog 118 #[.func (.func 141) #[] #[.pointer (some ⟨Bn, 0, none⟩)]] w fun e W' => ∃ v, e = .returned v ∧ W'.ownsRow w.heap.size 69 3 v (tilesT n).length ((tilesT n).flatMap cellsT) ∧ Below w.heap.size w W' := by
  have h1 : 1 ≤ m := by omega
  refine callsIn_of_wp Tryd.func118 rfl trivial ?_ rfl
  simp only [Tryd.ntmps118, List.size_toArray, List.length_cons, List.length_nil, Nat.reduceAdd, Nat.reduceSub, Array.replicate_succ, Array.replicate_zero, List.push_toArray, List.append_toArray, List.nil_append, List.cons_append]
  gi_wp2_with (refine ⟨trivial, ?_⟩; gi_at_call 140; refine (appendSeq_in (m - 1) (by omega) Bn n _ hBn hc).mono ?_; rintro e w' ⟨v, rfl, ho, hb⟩)
  go_ret
  exact ⟨v, rfl, ho, hb⟩
set_option maxHeartbeats 1000000 in
theorem All_in (m : Nat) (hm : 6 ≤ m) (n : Int) (w : World) :
    CallsIn Fence.wide m Tryd.prog 89 #[.int .i64 n] w fun e W' => ∃ v, e = .returned v ∧ W'.ownsRow w.heap.size 69 3 v (tilesT n).length ((tilesT n).flatMap cellsT) ∧ Below w.heap.size w W' := by
  have hc := (Boxed.new w 3 (.int .i64 n)).cell
  have h1 : 1 ≤ m := by omega
  refine callsIn_of_wp Tryd.func89 rfl trivial ?_ rfl
  simp only [Tryd.ntmps89, List.size_toArray, List.length_cons, List.length_nil, Nat.reduceAdd, Nat.reduceSub, Array.replicate_succ, Array.replicate_zero, List.push_toArray, List.append_toArray, List.nil_append, List.cons_append]
  gi_wp2_with (first
    | (refine ⟨trivial, ?_⟩; gi_at_call 119; refine (all_in n _).mono ?_; rintro e w' ⟨rfl, rfl⟩)
    | (refine ⟨trivial, ?_⟩; gi_at_call 118; refine (collect_in (m - 1) (by omega) w.heap.size n _ (by simp) hc).mono ?_; rintro e w' ⟨v, rfl, ho, hb⟩))
  go_ret
  exact ⟨v, rfl, own_weaken ho (by simp), ((Below.refl _ w).alloc (Nat.le_refl _) _).trans (hb.mono (by simp))⟩

theorem eqA69 (d : Nat) (w : World) (x0 y0 : Int) (x1 y1 : Int) (x2 y2 : Int) :
  (Op.equalIn (d + 2) 69 (.agg #[.int .i64 x0, .int .i64 x1, .int .i64 x2]) (.agg #[.int .i64 y0, .int .i64 y1, .int .i64 y2])).run Tryd.prog w = .ok (x0 == y0 && (x1 == y1 && (x2 == y2))) w := by
 refine eqA_of Tryd.underlying69 (by kernel_rfl) ?_
 refine eqf_cons (by rfl) (by go_simp; rfl) (by go_simp; rfl) (by go_simp) ?_
 refine eqf_cons (by rfl) (by go_simp; rfl) (by go_simp; rfl) (by go_simp) ?_
 exact eqf_last (by rfl) (by go_simp; rfl) (by go_simp; rfl) (by go_simp)
attribute [local go_sem high] eqA69
theorem tilesT_257 : tilesT 257 = [⟨-1, 0, 256⟩, ⟨-1, 1, 1⟩, ⟨0, 0, 256⟩, ⟨0, 1, 1⟩, ⟨1, 0, 1⟩] := by kernel_rfl
theorem Place_35 : T.tiles_Place.f 3 5 = some (0, 0, 48, 40, 0) := by kernel_rfl
theorem All_257 (w : World) : Calls Tryd.prog 89 #[.int .i64 257] w fun e w' => ∃ g c, e = .returned (.slice (some ⟨g, 0, none⟩) 5 c) ∧ Below w.heap.size w w' ∧ w.heap.size ≤ g ∧
    w'.cell? ⟨g, 3, none⟩ = some (.int .i64 (-1)) ∧ w'.cell? ⟨g, 4, none⟩ = some (.int .i64 1) ∧ w'.cell? ⟨g, 5, none⟩ = some (.int .i64 1) ∧
    w'.cell? ⟨g, 12, none⟩ = some (.int .i64 1) ∧ w'.cell? ⟨g, 13, none⟩ = some (.int .i64 0) ∧ w'.cell? ⟨g, 14, none⟩ = some (.int .i64 1) ∧ g < w'.heap.size := by
  refine (callsIn_wide.1 (All_in 6 (Nat.le_refl _) 257 w)).mono ?_
  rintro e w' ⟨v, rfl, ho, hb⟩
  rw [tilesT_257] at ho
  obtain ⟨g, cap, rfl, hg, hlt⟩ := ho.form (by simp)
  have hc := fun j u hj => ho.cells (g := g) rfl j u hj
  refine ⟨g, cap, rfl, hb, hg, ?_, ?_, ?_, ?_, ?_, ?_, own_lt ho g rfl⟩
  all_goals (rw [← add_plain]; exact hc _ _ rfl)
/-- The document's example lives. -/
def lives12F : Option (Bool) := some true
set_option maxHeartbeats 4000000 in
set_option maxRecDepth 100000 in
theorem lives12_calls (r : Bool) (w : World) (h : lives12F = some r) :
    Calls Tryd.prog 44 #[] w fun e w' => e = .returned (.bool r) ∧ Below w.heap.size w w' := by
  obtain rfl : true = r := Option.some.inj h
  clear h
  have hu30 := Tryd.underlying69
  go_enter Tryd.func44, Tryd.ntmps44
  go_wp2_with (first
    | (go_at_call 89; refine (All_257 _).mono ?_; rintro e w1 ⟨g, c, rfl, hb1, hg, c3, c4, c5, c12, c13, c14, hgl⟩)
    | (go_at_call 55; refine (T.tiles_Place.calls 3 5 0 0 48 40 0 _ Place_35).mono ?_; rintro e w2 ⟨rfl, hb2⟩; replace c3 := pw_cell_below hb2 c3; replace c4 := pw_cell_below hb2 c4; replace c5 := pw_cell_below hb2 c5; replace c12 := pw_cell_below hb2 c12; replace c13 := pw_cell_below hb2 c13; replace c14 := pw_cell_below hb2 c14; replace hgl := Nat.lt_of_lt_of_le hgl hb2.size))
  go_ret
  exact ⟨rfl, (hb1.trans (hb2.mono hb1.size)).alloc (Nat.le_trans hb1.size hb2.size) _⟩
end Go.Proofs.YtoeibcdnhglobaaDoor.P
