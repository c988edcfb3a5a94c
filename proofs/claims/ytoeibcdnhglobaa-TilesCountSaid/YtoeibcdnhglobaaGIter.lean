/- tiles.all: the iterator over a tree's tiles. -/
import Derived.RangeFuncNested
import Derived.RangeFuncBound
import Derived.RangeFuncCalls
import Derived.RangeFuncLeaves
import Derived.RangeFuncBox
import Derived.Shelf.Abstract
import Derived.Shelf.RegionOpen
import Derived.WalkKit
import Derived.Lib.Hide
import Derived.OwnWalkIn
import Derived.TacticsInMore
import Derived.LoopNIn
import Derived.LoopIn
import Derived.Test.YtoeibcdnhglobaaGPure
namespace Go.Proofs.Ytoeibcdnhglobaa.P
set_option linter.unusedVariables false
set_option linter.unusedSimpArgs false
open Go.RowKit Go.Shelf Go.Proofs.YtoeibcdnhglobaaW.PrintWords Go.Proofs.YtoeibcdnhglobaaW.PrintLast Go.Proofs.YtoeibcdnhglobaaW.PrintMore
attribute [local go_sem] Oper.semAt_some

def encT (x : S30) : Value := .agg #[.int .i64 x.f0, .int .i64 x.f1, .int .i64 x.f2]

theorem LE6 (n lev : Int) (h : lev = -1 ∨ 0 < Wd n lev 0) : lev ≤ 5 := by
  rcases h with h | h
  · omega
  · unfold Wd at h
    split at h
    · rename_i hh
      exact hh.1.2.2.2
    · omega
theorem upTo_pre (n : Int) (j : Nat) (h : j ≤ 7) : upTo n j <+: tilesT n := by
  have key : ∀ d, upTo n j <+: upTo n (j + d) := by
    intro d
    induction d with
    | zero => exact List.prefix_refl _
    | succ d ih => rw [← Nat.add_assoc, upTo_succ]; exact ih.trans (List.prefix_append _ _)
  have := key (7 - j)
  rwa [show j + (7 - j) = 7 from by omega, upTo_7] at this
theorem inPre {n lev : Int} (j i : Nat) (h : lev = (j : Int) - 1) (h6 : j ≤ 6) (hi : i < cnt n lev) : upTo n j ++ (rowT n lev).take i ++ [⟨lev, i, Wd n lev i⟩] <+: tilesT n := by
  refine List.IsPrefix.trans ?_ (upTo_pre n (j + 1) (by omega))
  rw [upTo_succ, ← h, List.append_assoc, ← rowT_take _ _ _ hi]
  exact (List.prefix_append_right_inj _).2 (List.take_prefix _ _)
theorem inLen {n lev : Int} (j i : Nat) (h : lev = (j : Int) - 1) (h6 : j ≤ 6) (hi : i < cnt n lev) : (upTo n j ++ (rowT n lev).take i).length < (tilesT n).length := by
  have := (inPre j i h h6 hi).length_le
  rw [List.length_append, List.length_singleton] at this
  omega
theorem allOf {n lev : Int} (j : Nat) (h : lev = (j : Int) - 1) (h1 : -1 ≤ lev) (h2 : lev ≤ 6) (hm : ¬ lev = -1) (hp : ¬ 0 < Wd n lev 0) : upTo n j = tilesT n := by
  refine upTo_stop n j (by omega) (by omega) ?_
  rw [← h]
  have := Wd_pos_iff n lev 0
  have h3 : ((0 : Nat) : Int) = 0 := rfl
  rw [h3] at this
  omega
theorem Width_in {n : Nat} (a b c : Int) (w : World) : CallsIn Fence.wide n Try.prog 12 #[.int .i64 a, .int .i64 b, .int .i64 c] w fun e w' => e = .returned (.int .i64 (Wd a b c)) ∧ Below w.heap.size w w' :=
  callsIn_wide.2 ((tiles_Width.calls a b c (Wd a b c) w (Width_eq a b c)).mono fun _ _ ⟨he, hd⟩ => ⟨he, hd.below⟩)

/-- A box holds what it held. -/
def KpC (b : Nat) (W W' : World) : Prop := ∀ v, W.cell? ⟨b, 0, none⟩ = some v → W'.cell? ⟨b, 0, none⟩ = some v
theorem KpC.of_below {b n₀ : Nat} {W W' : World} (h : Below n₀ W W') (hb : b < n₀) : KpC b W W' := fun _ hv => (h.cell (p := ⟨b, 0, none⟩) hb).trans hv
theorem KpC.t {b : Nat} {A B C : World} (h : KpC b A B) (k : KpC b B C) : KpC b A C := fun v hv => k v (h v hv)
theorem KpC.b {b B : Nat} (W : World) (l : Nat) (o o' : Obj) (_ : B ≤ l) (hl : W.heap[l]? = some o) (ho : o.isCells = false) (_ : o.isWalk = false) : KpC b W (W.putObj l o') := fun _ hv =>
  cell_kept hv (grownBy_putObj' W l o') (fun r e => by cases e; exact ⟨o, hl, ho⟩)

set_option maxRecDepth 100000 in
set_option maxHeartbeats 4000000 in
theorem all1_in (m : Nat) (hm : 1 ≤ m) (l Bn : Nat) (n : Int) (J Jx : List S30 → World → Prop)
    (hJ : ∀ s W W', J s W → Below W.heap.size W W' → J s W')
    (hY : ∀ pre x W, J pre W → pre.length < (tilesT n).length → YieldAt Fence.wide (m - 1) Try.prog l #[encT x] W fun e W' =>
      (e = .returned (.bool true) ∧ J (pre ++ [x]) W' ∧ KpC Bn W W') ∨ (e = .returned (.bool false) ∧ Jx (pre ++ [x]) W'))
    (W : World) (hBn : W.cell? ⟨Bn, 0, none⟩ = some (.int .i64 n)) (h0 : J [] W) :
    CallsIn Fence.wide m Try.prog 23 #[.func (.yield l) #[] #[], .pointer (some ⟨Bn, 0, none⟩)] W fun e W' => (∃ v, e = .returned v) ∧
      ((∃ ys, ys = tilesT n ∧ J ys W') ∨ (∃ pre, pre <+: tilesT n ∧ Jx pre W')) := by
  refine callsIn_of_wp Try.func23 rfl trivial ?_ rfl
  simp only [Try.ntmps23, List.size_toArray, List.length_cons, List.length_nil, Nat.reduceAdd, Nat.reduceSub, Array.replicate_succ, Array.replicate_zero, List.push_toArray, List.append_toArray, List.nil_append, List.cons_append]
  gi_wp2
  gi_loopw [3] (fun v3 wr => ∃ (lev : Int) (j : Nat), v3 = .int .i64 lev ∧ Hid (lev = (j : Int) - 1) ∧ -1 ≤ lev ∧ lev ≤ 6 ∧ J (upTo n j) wr ∧ wr.cell? ⟨Bn, 0, none⟩ = some (.int .i64 n))
    (fun v3 _ => (7 - intOf v3).toNat)
  case atStart => exact ⟨-1, 0, rfl, (by omega : (-1 : Int) = ((0 : Nat) : Int) - 1), by omega, by omega, h0, hBn⟩
  case round =>
    obtain ⟨lev, j, rfl, HL, hl1, hl2, hJs, hbx⟩ := hrel
    by_cases hm1 : lev = -1
    · have hm2 : (lev == -1) = true := by simpa using hm1
      have HC : Hid (lev = -1 ∨ 0 < Wd n lev 0) := Lib.hid (.inl hm1)
      clear hm1
      have hJq := hJs
      have hbq := hbx
      clear hJs hbx
      gi_wp2
      refine ⟨trivial, ?_⟩
      gi_wp2
      gi_loopw [4] (fun v4 wr => ∃ (i : Nat), v4 = .int .i64 i ∧ i ≤ cnt n lev ∧ J (upTo n j ++ (rowT n lev).take i) wr ∧ wr.cell? ⟨Bn, 0, none⟩ = some (.int .i64 n))
        (fun v4 _ => cnt n lev + 1 - (intOf v4).toNat)
      case atStart => exact ⟨0, rfl, by omega, by simpa using hJq, hbq⟩
      case round =>
        clear hJq hbq
        obtain ⟨i, rfl, hi, hJi, hbi⟩ := hrel
        have hcl := cnt_le n lev
        by_cases hlt : i < cnt n lev
        · have hw0 : 0 < Wd n lev i := (Wd_pos_iff _ _ _).2 hlt
          have hw1 : (Wd n lev (i : Int) == 0) = false := by simp; omega
          clear hw0
          gi_wp2_with (refine ⟨trivial, ?_⟩; gi_at_call 12; refine (Width_in _ _ _ _).mono ?_; rintro e w' ⟨rfl, hb1⟩; have hJ1 := hJ _ _ _ hJi hb1; have hn1 := pw_cell_below hb1 hbi; obtain ⟨fn, tmps, assign, body, hy, hR⟩ := hY _ (⟨lev, i, Wd n lev i⟩ : S30) w' hJ1 (inLen j i HL.out (by have := LE6 _ _ HC.out; have := HL.out; omega) hlt); dsimp only [encT] at hy)
          refine hR.mono ?_
          rintro e W3 (⟨rfl, hJ3, hk3⟩ | ⟨rfl, hJx3⟩)
          · gi_wp2
            go_roundw
            case rel => exact ⟨i + 1, by go_num, by omega, by rw [rowT_take _ _ _ hlt, ← List.append_assoc]; exact hJ3, hk3 _ hn1⟩
            case measure => simp [intOf]; omega
          · gi_wp2
            refine bodyPost_ret (results_none rfl _ _ _) rfl ?_
            exact ⟨⟨_, rfl⟩, .inr ⟨_, inPre j i HL.out (by have := LE6 _ _ HC.out; have := HL.out; omega) hlt, hJx3⟩⟩
        · have hw1 : (Wd n lev (i : Int) == 0) = true := by simp; exact Wd_zero_of_ge _ _ _ (by omega)
          gi_wp2_with (refine ⟨trivial, ?_⟩; gi_at_call 12; refine (Width_in _ _ _ _).mono ?_; rintro e w' ⟨rfl, hb1⟩; have hJ1 := hJ _ _ _ hJi hb1; have hn1 := pw_cell_below hb1 hbi)
          go_roundw
          case rel => exact ⟨lev + 1, j + 1, rfl, Lib.hid (by have := HL.out; omega), by omega, by have := LE6 _ _ HC.out; omega, by rw [upTo_succ, ← HL.out, ← List.take_of_length_le (l := rowT n lev) (i := i) (by rw [rowT_length]; omega)]; exact hJ1, hn1⟩
          case measure => simp [intOf]; have := LE6 _ _ HC.out; omega
    · have hm2 : (lev == -1) = false := by simpa using hm1
      clear hm1
      by_cases hp : 0 < Wd n lev 0
      · have HC : Hid (lev = -1 ∨ 0 < Wd n lev 0) := Lib.hid (.inr hp)
        have hpd : decide (0 < Wd n lev 0) = true := decide_eq_true hp
        clear hp
        gi_wp2_with (refine ⟨trivial, ?_⟩; gi_at_call 12; refine (Width_in _ _ _ _).mono ?_; rintro e w' ⟨rfl, hb1⟩; have hJq := hJ _ _ _ hJs hb1; have hbq := pw_cell_below hb1 hbx; clear hJs hbx)
        gi_loopw [4] (fun v4 wr => ∃ (i : Nat), v4 = .int .i64 i ∧ i ≤ cnt n lev ∧ J (upTo n j ++ (rowT n lev).take i) wr ∧ wr.cell? ⟨Bn, 0, none⟩ = some (.int .i64 n))
          (fun v4 _ => cnt n lev + 1 - (intOf v4).toNat)
        case atStart => exact ⟨0, rfl, by omega, by simpa using hJq, hbq⟩
        case round =>
          clear hJq hbq
          obtain ⟨i, rfl, hi, hJi, hbi⟩ := hrel
          have hcl := cnt_le n lev
          by_cases hlt : i < cnt n lev
          · have hw0 : 0 < Wd n lev i := (Wd_pos_iff _ _ _).2 hlt
            have hw1 : (Wd n lev (i : Int) == 0) = false := by simp; omega
            clear hw0
            gi_wp2_with (refine ⟨trivial, ?_⟩; gi_at_call 12; refine (Width_in _ _ _ _).mono ?_; rintro e w' ⟨rfl, hb1⟩; have hJ1 := hJ _ _ _ hJi hb1; have hn1 := pw_cell_below hb1 hbi; obtain ⟨fn, tmps, assign, body, hy, hR⟩ := hY _ (⟨lev, i, Wd n lev i⟩ : S30) w' hJ1 (inLen j i HL.out (by have := LE6 _ _ HC.out; have := HL.out; omega) hlt); dsimp only [encT] at hy)
            refine hR.mono ?_
            rintro e W3 (⟨rfl, hJ3, hk3⟩ | ⟨rfl, hJx3⟩)
            · gi_wp2
              go_roundw
              case rel => exact ⟨i + 1, by go_num, by omega, by rw [rowT_take _ _ _ hlt, ← List.append_assoc]; exact hJ3, hk3 _ hn1⟩
              case measure => simp [intOf]; omega
            · gi_wp2
              refine bodyPost_ret (results_none rfl _ _ _) rfl ?_
              exact ⟨⟨_, rfl⟩, .inr ⟨_, inPre j i HL.out (by have := LE6 _ _ HC.out; have := HL.out; omega) hlt, hJx3⟩⟩
          · have hw1 : (Wd n lev (i : Int) == 0) = true := by simp; exact Wd_zero_of_ge _ _ _ (by omega)
            gi_wp2_with (refine ⟨trivial, ?_⟩; gi_at_call 12; refine (Width_in _ _ _ _).mono ?_; rintro e w' ⟨rfl, hb1⟩; have hJ1 := hJ _ _ _ hJi hb1; have hn1 := pw_cell_below hb1 hbi)
            go_roundw
            case rel => exact ⟨lev + 1, j + 1, rfl, Lib.hid (by have := HL.out; omega), by omega, by have := LE6 _ _ HC.out; omega, by rw [upTo_succ, ← HL.out, ← List.take_of_length_le (l := rowT n lev) (i := i) (by rw [rowT_length]; omega)]; exact hJ1, hn1⟩
            case measure => simp [intOf]; have := LE6 _ _ HC.out; omega
  
      · have hpd : decide (0 < Wd n lev 0) = false := decide_eq_false hp
        gi_wp2_with (refine ⟨trivial, ?_⟩; gi_at_call 12; refine (Width_in _ _ _ _).mono ?_; rintro e w' ⟨rfl, hb1⟩; have hJq := hJ _ _ _ hJs hb1; clear hJs hbx)
        go_end0
        exact ⟨⟨_, rfl⟩, .inl ⟨_, allOf j HL.out hl1 hl2 (by simpa using hm2) (by omega), hJq⟩⟩
end Go.Proofs.Ytoeibcdnhglobaa.P
