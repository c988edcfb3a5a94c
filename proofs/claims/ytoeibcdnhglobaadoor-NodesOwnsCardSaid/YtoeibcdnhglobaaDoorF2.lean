/- Texts of the seat, joined: GRefPad, GRefOf, GOf, GSumR. -/
import Derived.Test.YtoeibcdnhglobaaDoorE5
import Derived.Test.YtoeibcdnhglobaaDoorGBlock
/- pantileref01: Pad, form: the walks. -/
namespace Go.Proofs.YtoeibcdnhglobaaDoor.P
set_option linter.unusedVariables false
set_option linter.unusedSimpArgs false
open Go.RowKit Go.Shelf Go.Proofs.YtoeibcdnhglobaaDoorW.PrintWords Go.Proofs.YtoeibcdnhglobaaDoorW.PrintLast Go.Proofs.YtoeibcdnhglobaaDoorW.PrintMore
open Go.Proofs.YtoeibcdnhglobaaDoor.Pure

/-- The last k of a number's eight bytes, behind zeros. -/
def lowB (n k : Nat) : List Int := List.replicate (8 - k) 0 ++ (len8 n).drop (8 - k)
theorem lowB_8 (n : Nat) : lowB n 8 = len8 n := by simp [lowB, len8]
theorem lowB_set (n k : Nat) (hk : k < 8) : (lowB n k).set (7 - k) ((n / 256 ^ k % 256 : Nat) : Int) = lowB n (k + 1) := by
  have hc : k = 0 ∨ k = 1 ∨ k = 2 ∨ k = 3 ∨ k = 4 ∨ k = 5 ∨ k = 6 ∨ k = 7 := by omega
  rcases hc with rfl | rfl | rfl | rfl | rfl | rfl | rfl | rfl <;> simp [lowB, len8, List.replicate]
theorem lowB_0 (n : Nat) : lowB n 0 = List.replicate 8 0 := by simp [lowB, len8]
theorem lowB_length (n k : Nat) (hk : k ≤ 8) : (lowB n k).length = 8 := by simp [lowB, len8] <;> omega
set_option maxRecDepth 100000 in
set_option maxHeartbeats 8000000 in
theorem Pad_calls (A2 A3 A4 A5 A6 A7 : Option Addr) (c2 c3 c4 c5 c6 c7 n6 n7 : Nat) (A : Option Addr) (c : Nat) (d : List Int) (w : World) (hr : ReadsInt w .u8 A d.length d) (hl : d.length < 1099511627776) :
    Calls Tryd.prog 138 #[.agg #[.int .i64 32, .int .i64 64, .slice A2 3 c2, .slice A3 3 c3, .slice A4 3 c4, .slice A5 3 c5, .slice A6 n6 c6, .slice A7 n7 c7], .slice A d.length c] w fun e w' => ∃ v', e = .returned v' ∧ OwnB w' w.heap.size v' (tailN d d.length) ∧ Below w.heap.size w w' := by
  obtain ⟨n0, hn0⟩ : ∃ n0, w.heap.size = n0 := ⟨_, rfl⟩
  have HN := Lib.hid hn0
  have HR := Lib.hid hr
  have HL := Lib.hid hl
  clear hr hl
  have hHR : ReadsInt (w.alloc (.cells #[.int .i64 32, .int .i64 64, .slice A2 3 c2, .slice A3 3 c3, .slice A4 3 c4, .slice A5 3 c5, .slice A6 n6 c6, .slice A7 n7 c7] 144)) .u8 A d.length d := HR.out.below ((Below.refl _ w).alloc (Nat.le_refl _) _)
  have hbw : Below n0 w (w.alloc (.cells #[.int .i64 32, .int .i64 64, .slice A2 3 c2, .slice A3 3 c3, .slice A4 3 c4, .slice A5 3 c5, .slice A6 n6 c6, .slice A7 n7 c7] 144)) := (Below.refl n0 w).alloc (Nat.le_of_eq hn0.symm) _
  have hsw : n0 ≤ (w.alloc (.cells #[.int .i64 32, .int .i64 64, .slice A2 3 c2, .slice A3 3 c3, .slice A4 3 c4, .slice A5 3 c5, .slice A6 n6 c6, .slice A7 n7 c7] 144)).heap.size := by simp; omega
  have hbx : WBox (w.alloc (.cells #[.int .i64 32, .int .i64 64, .slice A2 3 c2, .slice A3 3 c3, .slice A4 3 c4, .slice A5 3 c5, .slice A6 n6 c6, .slice A7 n7 c7] 144)) n0 A2 A3 A4 A5 A6 A7 c2 c3 c4 c5 c6 c7 n6 n7 := hn0 ▸ WBox.new w
  have hl0 : (([] : List Int).length + d.length) * 1 ≤ 140737488355328 := by have := HL.out; simp only [List.length_nil]; omega
  have hl1 : (([] ++ d : List Int).length + 1) * 1 ≤ 140737488355328 := by have := HL.out; simp only [List.nil_append]; omega
  have HBX := Lib.hid hbx
  clear hbx
  go_enter Tryd.func138, Tryd.ntmps138
  go_wp2_with (first
    | (at_builtin; go_loud (refine print_append_row (w0 := w) n0 rfl _ _ 47 5 .u8 1 rfl Tryd.underlying47 inf5 (by decide) (.slice none 0 0) [] d A d.length c rfl rfl (own_nil _ _ _ _) hHR hbw hsw hl0 ?_; intro v1 w1 hown1 hB1 hg1 _; have HG1 := Lib.hid hg1; have hbx1 : WBox w1 n0 A2 A3 A4 A5 A6 A7 c2 c3 c4 c5 c6 c7 n6 n7 := (HG1.out.block n0 HBX.out.lt (fun e => by cases e)).trans HBX.out; have hq1 := hbx1.cells.1; have hsw1 : n0 ≤ w1.heap.size := Nat.le_of_lt hbx1.lt; have HBX1 := Lib.hid hbx1; clear hg1 hHR hbw hsw hl0 hbx1))
    | (at_builtin; go_loud (refine print_append_num (w0 := w) n0 rfl _ _ 47 5 .u8 1 rfl Tryd.underlying47 inf5 (by decide) v1 ([] ++ d) 128 rfl rfl hown1 hB1 hsw1 hl1 ?_; intro v5 w5 hown5 hB5 hg5 _; have hbx5 : WBox w5 n0 A2 A3 A4 A5 A6 A7 c2 c3 c4 c5 c6 c7 n6 n7 := (hg5.block n0 HBX1.out.lt (fun e => own_ne hown1 HBX1.out (by decide) e.symm)).trans HBX1.out; have hq5 := hbx5.cells.1; have HO5 := Lib.hid hown5; have HB5 := Lib.hid hB5; have HBX5 := Lib.hid hbx5; clear hg5 hown1 hB1 hsw1 hl1 hown5 hB5 hbx5 hq1)))
  clear hq5
  have eL : (([] ++ d : List Int) ++ [128]).length = d.length + 1 := by simp
  go_loopw [5] (fun v5 wr => ∃ (j len : Nat), Hid (len = d.length + 1 + j) ∧ wr.ownsRow n0 5 1 v5 len (nums .u8 (d ++ 128 :: List.replicate j 0)) ∧ j ≤ zc d.length ∧ Below n0 w wr ∧ WBox wr n0 A2 A3 A4 A5 A6 A7 c2 c3 c4 c5 c6 c7 n6 n7) (fun v5 _ => match v5 with | .slice _ n _ => d.length + 100 - n | _ => 0)
  case atStart => exact ⟨0, d.length + 1, Lib.hid rfl, by have := HO5.out; rw [eL] at this; simpa using this, by omega, HB5.out, HBX5.out⟩
  case round =>
    obtain ⟨j, len, HLen, hown, hj, hB, hbx⟩ := hrel
    obtain ⟨g7, c7', rfl, hc7⟩ := own_form2 hown (by have := HLen.out; omega)
    have hq := hbx.cells.1
    have hzc : zc d.length < 64 := by unfold zc; omega
    have hll := HLen.out
    have hl := HL.out
    have em : Int.tmod (len : Int) 64 = (len : Int) % 64 := Int.tmod_eq_emod_of_nonneg (by omega)
    have hlb : len < 1099511627900 := by omega
    by_cases hlt : j < zc d.length
    · have hd : ((len : Int) % 64 != 56) = true := by
        rw [bne_iff_ne]; unfold zc at hlt; omega
      have hX : (d ++ 128 :: List.replicate j (0 : Int)).length = len := by simp; omega
      have hown' : OwnB wr n0 (.slice (some ⟨g7, 0, none⟩) len c7') (d ++ 128 :: List.replicate j 0) := by unfold OwnB; rw [hX]; exact hown
      have hlenX : ((d ++ 128 :: List.replicate j (0 : Int)).length + 1) * 1 ≤ 140737488355328 := by rw [hX]; omega
      have hns2 : n0 ≤ wr.heap.size := by have := hbx.lt; omega
      have hne := own_ne hown hbx (by decide)
      have HX := Lib.hid hX
      have HBX2 := Lib.hid hbx
      have HNE := Lib.hid hne
      clear hll hl hzc hown hX hbx hne
      go_wp2
      go_quiet (fail)
      go_wp2_with (at_builtin; go_loud (refine print_append_num (w0 := w) n0 rfl _ _ 47 5 .u8 1 rfl Tryd.underlying47 inf5 (by decide) (.slice (some ⟨g7, 0, none⟩) len c7') (d ++ 128 :: List.replicate j 0) 0 rfl rfl (show (wr.drewN _).ownsRow n0 5 1 _ _ _ from hown') (pw_below_drewN hB _) hns2 hlenX ?_; intro v6 w6 hown6 hB6 hg6 _; have HG6 := Lib.hid hg6; clear hg6))
      have e1 : d ++ 128 :: List.replicate j (0 : Int) ++ [0] = d ++ 128 :: List.replicate (j + 1) 0 := by simp [List.replicate_succ']
      rw [e1] at hown6
      have e2 : (d ++ 128 :: List.replicate (j + 1) (0 : Int)).length = len + 1 := by have := HLen.out; simp; omega
      rw [e2] at hown6
      obtain ⟨g8, c8, rfl, _⟩ := own_form2 hown6 (by omega)
      exact ⟨⟨j + 1, len + 1, Lib.hid (by have := HLen.out; omega), hown6, by omega, hB6, (HG6.out.block n0 HBX2.out.lt (fun e => HNE.out e.symm)).trans HBX2.out⟩, by have := HLen.out; have hz : zc d.length < 64 := (by unfold zc; omega); simp only []; omega⟩
    · have hd : ((len : Int) % 64 != 56) = false := by
        rw [bne_eq_false_iff_eq]; unfold zc at hlt hj; omega
      have hjz : j = zc d.length := by omega
      subst hjz
      have km : ∀ W : World, (Instr.makeSlice 47 (.int .i64 8) (.int .i64 8)).run Tryd.prog W = .ok (.slice (some ⟨W.heap.size, 0, none⟩) 8 8) (W.alloc (.cells (madeCells #[.int .u8 0] 8) 5)) := print_make (P := Tryd.prog) 47 5 .u8 1 Tryd.underlying47 inf5 (by decide) 8 (by decide)
      obtain ⟨M, hM⟩ : ∃ M, M = 8 * d.length := ⟨_, rfl⟩
      have hMM : (8 : Int) * (d.length : Int) = (M : Int) := by omega
      have hMb : M < 9223372036854775 := by omega
      have hMl : (M : Int) < 9223372036854775 := by omega
      have HOwn := Lib.hid hown
      have HBq := Lib.hid hB
      have HBX2 := Lib.hid hbx
      have HM := Lib.hid hM
      clear hll hl hzc hown hB hj hlt hbx hM
      go_wp2
      go_quiet (fail)
      go_wp2
      obtain ⟨mt, hmt⟩ : ∃ mt, wr.heap.size = mt := ⟨_, rfl⟩
      have hbm := HBX2.out.lt
      have hgm : g7 < mt := by rw [← hmt]; exact (HOwn.out.lt g7 rfl).2
      rw [hmt]
      refine at_world (fun W0 => W0.ownsRow n0 5 1 (.slice (some ⟨g7, 0, none⟩) len c7') len (nums .u8 (d ++ 128 :: List.replicate (zc d.length) 0)) ∧ W0.ownsRow n0 5 1 (.slice (some ⟨mt, 0, none⟩) 8 8) 8 (nums .u8 (lowB M 0)) ∧ Below n0 w W0) ⟨?_, ?_, ?_⟩ ?_
      · exact pw_own_below (show (wr.drewN nq).ownsRow n0 5 1 _ _ _ from HOwn.out) ((Below.refl _ _).alloc (Nat.le_refl _) _)
      · have := own_made (wr.drewN nq) n0 5 .u8 8 (show n0 ≤ wr.heap.size by omega) (by decide)
        rw [show (wr.drewN nq).heap.size = mt from hmt] at this
        rw [lowB_0]; exact this
      · exact (pw_below_drewN HBq.out _).alloc (show n0 ≤ wr.heap.size by omega) _
      clear km hq em hd HO5 HB5 HBX5 hmt hbm
      rintro W3 ⟨hoA, hoT, hB3⟩
      have HOA := Lib.hid hoA
      have HOT := Lib.hid hoT
      have HB3 := Lib.hid hB3
      clear hoA hoT hB3
      go_loopw [8, 9] (fun v8 v9 wr => ∃ (k N : Nat), v9 = .int .i64 (7 - (k : Int)) ∧ k ≤ 8 ∧ v8 = .int .i64 N ∧ Hid (N = M / 256 ^ k) ∧ wr.ownsRow n0 5 1 (.slice (some ⟨g7, 0, none⟩) len c7') len (nums .u8 (d ++ 128 :: List.replicate (zc d.length) 0)) ∧ wr.ownsRow n0 5 1 (.slice (some ⟨mt, 0, none⟩) 8 8) 8 (nums .u8 (lowB M k)) ∧ Below n0 w wr) (fun _ v9 _ => (intOf v9 + 1).toNat)
      case atStart => exact ⟨0, M, rfl, by omega, rfl, Lib.hid (by simp), HOA.out, HOT.out, HB3.out⟩
      case round =>
        clear HOA HOT HB3
        obtain ⟨k, N, rfl, hk, rfl, HNN, hoA, hoT, hB⟩ := hrel
        have hNM : N ≤ M := by rw [HNN.out]; exact Nat.div_le_self _ _
        by_cases hlt : k < 8
        · have hd : decide ((0 : Int) ≤ 7 - (k : Int)) = true := decide_eq_true (by omega)
          have h0 : (0 : Int) ≤ 7 - (k : Int) := by omega
          have h0' : (k : Int) ≤ 7 := by omega
          have h1 : (7 : Int) - (k : Int) < 8 := by omega
          have h2 : ((7 : Int) - (k : Int)).toNat = 7 - k := by omega
          have hNb : (N : Int) < 9223372036854775 := by omega
          have hcl := own_at hoT ((7 : Int) - (k : Int)) h0 h1
          rw [h2] at hcl
          have p1 := hcl.1
          have p2 := hcl.2
          have hst := own_store hoT ((7 : Int) - (k : Int)) ((N : Int) % 256)
          rw [h2] at hst
          have hset := lowB_set M k hlt
          rw [← HNN.out] at hset
          have eN : ((N % 256 : Nat) : Int) = (N : Int) % 256 := by omega
          rw [eN] at hset
          rw [hset] at hst
          have hoA2 := own_blk (w' := wr.setCell ⟨mt, 7 - k, none⟩ (.int .u8 ((N : Int) % 256))) hoA (fun g hg => Below.heap_setCell _ _ _ _ (fun e => by cases hg; have : g7 = mt := e; omega))
          have hB2 := hB.setCell (p := ⟨mt, 7 - k, none⟩) (own_base hoT mt rfl) (.int .u8 ((N : Int) % 256))
          have HST := Lib.hid hst.1
          have HOA := Lib.hid hoA2
          have HB2 := Lib.hid hB2
          clear hst hoA2 hB2 hoA hoT hB hset hcl
          go_wp2
          exact ⟨⟨k + 1, N / 256, by simp; omega, by omega, rfl, Lib.hid (by rw [HNN.out, Nat.div_div_eq_div_mul, Nat.pow_succ]), HOA.out, HST.out, HB2.out⟩, by simp only [intOf]; omega⟩
        · have hd : decide ((0 : Int) ≤ 7 - (k : Int)) = false := decide_eq_false (by omega)
          have hk8 : k = 8 := by omega
          subst hk8
          have hrd := own_reads' hoT
          have hX : (d ++ 128 :: List.replicate (zc d.length) (0 : Int)).length = len := by have := HLen.out; simp; omega
          have hown' : OwnB wr n0 (.slice (some ⟨g7, 0, none⟩) len c7') (d ++ 128 :: List.replicate (zc d.length) 0) := by unfold OwnB; rw [hX]; exact hoA
          have hzc : zc d.length < 64 := by unfold zc; omega
          have hl8 : ((d ++ 128 :: List.replicate (zc d.length) (0 : Int)).length + 8) * 1 ≤ 140737488355328 := by rw [hX]; omega
          have hns2 : n0 ≤ wr.heap.size := by have := hB.size; have := HN.out; omega
          clear hoA hoT hX hzc
          go_wp2_with (at_builtin; go_loud (refine print_append_row (w0 := w) n0 rfl _ _ 47 5 .u8 1 rfl Tryd.underlying47 inf5 (by decide) (.slice (some ⟨g7, 0, none⟩) len c7') (d ++ 128 :: List.replicate (zc d.length) 0) (lowB M 8) (some ⟨mt, 0, none⟩) 8 8 rfl rfl hown' hrd hB hns2 hl8 ?_; intro v6 w6 hown6 hB6 _ _; have HO6 := Lib.hid hown6; have HB6 := Lib.hid hB6; clear hown6 hB6))
          go_ret
          have e1 : (d ++ 128 :: List.replicate (zc d.length) (0 : Int)) ++ lowB M 8 = tailN d d.length := by
            unfold tailN; rw [lowB_8, HM.out]; simp
          have ho := HO6.out
          rw [e1] at ho
          exact ⟨v6, rfl, by rw [HN.out]; exact ho, by rw [HN.out]; exact HB6.out⟩
end Go.Proofs.YtoeibcdnhglobaaDoor.P

/- pantileref01: form, Of: the walks. -/
namespace Go.Proofs.YtoeibcdnhglobaaDoor.P
set_option linter.unusedVariables false
set_option linter.unusedSimpArgs false
open Go.RowKit Go.Shelf Go.Proofs.YtoeibcdnhglobaaDoorW.PrintWords Go.Proofs.YtoeibcdnhglobaaDoorW.PrintLast Go.Proofs.YtoeibcdnhglobaaDoorW.PrintMore
open Go.Proofs.YtoeibcdnhglobaaDoor.Pure

set_option maxRecDepth 100000 in
set_option maxHeartbeats 8000000 in
theorem form_calls (w : World) :
    Calls Tryd.prog 136 #[.int .i64 32] w fun e w' => ∃ p : Nat, w.heap.size ≤ p ∧ e = .returned (.agg #[.int .i64 32, .int .i64 64, .slice (some ⟨p, 0, none⟩) 3 3, .slice (some ⟨p + 1, 0, none⟩) 3 3, .slice (some ⟨p + 1 + 1, 0, none⟩) 3 3, .slice (some ⟨p + 1 + 1 + 1, 0, none⟩) 3 3, .slice none 0 0, .slice none 0 0]) ∧
      Row3 w' p 2 13 22 ∧ Row3 w' (p + 1) 6 11 25 ∧ Row3 w' (p + 1 + 1) 7 18 3 ∧ Row3 w' (p + 1 + 1 + 1) 17 19 10 ∧ Below w.heap.size w w' := by
  obtain ⟨n0, hn0⟩ : ∃ n0, w.heap.size = n0 := ⟨_, rfl⟩
  go_enter Tryd.func136, Tryd.ntmps136
  go_wp2
  refine bodyPost_ret (v := .agg #[.int .i64 32, .int .i64 64, .slice (some ⟨n0 + 1 + 1 + 1 + 1 + 1 + 1, 0, none⟩) 3 3, .slice (some ⟨n0 + 1 + 1 + 1 + 1 + 1 + 1 + 1, 0, none⟩) 3 3, .slice (some ⟨n0 + 1 + 1 + 1 + 1 + 1 + 1 + 1 + 1, 0, none⟩) 3 3, .slice (some ⟨n0 + 1 + 1 + 1 + 1 + 1 + 1 + 1 + 1 + 1, 0, none⟩) 3 3, .slice none 0 0, .slice none 0 0]) ?_ rfl ?_
  · simp [results, Tryd.results136, go_sem, hn0]
  refine ⟨n0 + 1 + 1 + 1 + 1 + 1 + 1, by omega, rfl, ?_, ?_, ?_, ?_, ?_⟩
  · constructor <;> go_simp
  · constructor <;> go_simp
  · constructor <;> go_simp
  · constructor <;> go_simp
  · rw [hn0]
    exact (((((((((((Below.refl n0 w).alloc (Nat.le_of_eq hn0.symm) _).alloc (by simp; omega) _).alloc (by simp; omega) _).alloc (by simp; omega) _).alloc (by simp; omega) _).alloc (by simp; omega) _).alloc (by simp; omega) _).alloc (by simp; omega) _).alloc (by simp; omega) _).alloc (by simp; omega) _)
end Go.Proofs.YtoeibcdnhglobaaDoor.P

/- pantileref01: Of: the walk. Printed by wip/tools/genof.py. -/
namespace Go.Proofs.YtoeibcdnhglobaaDoor.P
set_option linter.unusedVariables false
set_option linter.unusedSimpArgs false
open Go.RowKit Go.Shelf Go.Proofs.YtoeibcdnhglobaaDoorW.PrintWords Go.Proofs.YtoeibcdnhglobaaDoorW.PrintLast Go.Proofs.YtoeibcdnhglobaaDoorW.PrintMore
open Go.Proofs.YtoeibcdnhglobaaDoor.Pure

/-- A row of words of 64 bits lies at block g. -/
def AtU (W : World) (g : Nat) (l : List Nat) : Prop := W.heap[g]? = some (.cells (l.map fun x : Nat => Value.int .u64 x).toArray 135 (0, 0))
theorem AtU.cell {W : World} {g : Nat} {l : List Nat} (h : AtU W g l) (i : Nat) (hi : i < l.length) : W.cell? ⟨g, i, none⟩ = some (.int .u64 (l.getD i 0 : Nat)) := by
  simp [World.cell?, show W.heap[g]? = _ from h, hi, List.getD_eq_getElem?_getD]
/-- A struct of words that nothing was put into. -/
def WZero (W : World) (B : Nat) : Prop := W.heap[B]? = some (.cells #[.int .i64 0, .int .i64 0, .slice none 0 0, .slice none 0 0, .slice none 0 0, .slice none 0 0, .slice none 0 0, .slice none 0 0] 144 (0, 0))
theorem WBox.setK {W : World} {B : Nat} {A2 A3 A4 A5 A6 A7 : Option Addr} {c2 c3 c4 c5 c6 c7 n6 n7 : Nat} (h : WBox W B A2 A3 A4 A5 A6 A7 c2 c3 c4 c5 c6 c7 n6 n7) (A : Option Addr) (n c : Nat) : WBox (W.setCell ⟨B, 6, none⟩ (.slice A n c)) B A2 A3 A4 A5 A A7 c2 c3 c4 c5 c c7 n n7 := by
  unfold WBox
  rw [heap_setCell_same W B 6 _ _ _ h]
  simp
theorem WBox.setF {W : World} {B : Nat} {A2 A3 A4 A5 A6 A7 : Option Addr} {c2 c3 c4 c5 c6 c7 n6 n7 : Nat} (h : WBox W B A2 A3 A4 A5 A6 A7 c2 c3 c4 c5 c6 c7 n6 n7) (A : Option Addr) (n c : Nat) : WBox (W.setCell ⟨B, 7, none⟩ (.slice A n c)) B A2 A3 A4 A5 A6 A c2 c3 c4 c5 c6 c n6 n := by
  unfold WBox
  rw [heap_setCell_same W B 7 _ _ _ h]
  simp
theorem WBox.frozen {W : World} {B : Nat} {A2 A3 A4 A5 A6 A7 : Option Addr} {c2 c3 c4 c5 c6 c7 n6 n7 : Nat} (h : WBox W B A2 A3 A4 A5 A6 A7 c2 c3 c4 c5 c6 c7 n6 n7) (i : Nat) : W.frozen? ⟨B, i, none⟩ = false := by
  simp [World.frozen?, show W.heap[B]? = _ from h]
theorem H32_len : H32.length = 8 := by decide
theorem K32_len : K32.length = 64 := by decide
theorem take_snocD (l : List Nat) (i : Nat) (h : i < l.length) : l.take (i + 1) = l.take i ++ [l.getD i 0] := by
  rw [List.take_succ_eq_append_getElem h]; simp [List.getD_eq_getElem?_getD, h]
theorem WZero.cells {W : World} {B : Nat} (h : WZero W B) : W.cell? ⟨B, 0, none⟩ = some (.int .i64 0) ∧ W.cell? ⟨B, 1, none⟩ = some (.int .i64 0) ∧ W.cell? ⟨B, 2, none⟩ = some (.slice none 0 0) ∧ W.cell? ⟨B, 3, none⟩ = some (.slice none 0 0) ∧
    W.cell? ⟨B, 4, none⟩ = some (.slice none 0 0) ∧ W.cell? ⟨B, 5, none⟩ = some (.slice none 0 0) ∧ W.cell? ⟨B, 6, none⟩ = some (.slice none 0 0) ∧ W.cell? ⟨B, 7, none⟩ = some (.slice none 0 0) := by
  refine ⟨?_, ?_, ?_, ?_, ?_, ?_, ?_, ?_⟩ <;> simp [World.cell?, show W.heap[B]? = _ from h]
theorem WZero.frozen {W : World} {B : Nat} (h : WZero W B) (i : Nat) : W.frozen? ⟨B, i, none⟩ = false := by simp [World.frozen?, show W.heap[B]? = _ from h]
theorem heap_setCell_same' {W : World} {B : Nat} {cs : Array Value} {t : TypeId} (i : Nat) (v : Value) (h : W.heap[B]? = some (.cells cs t (0, 0))) : (W.setCell ⟨B, i, none⟩ v).heap[B]? = some (.cells (cs.setIfInBounds i v) t (0, 0)) := heap_setCell_same W B i cs t v h
theorem WZero.fill {W : World} {B : Nat} {A2 A3 A4 A5 A6 A7 : Option Addr} {c2 c3 c4 c5 c6 c7 n6 n7 : Nat} (h : WZero W B) :
    WBox ((((((((W.setCell ⟨B, 0, none⟩ (.int .i64 32)).setCell ⟨B, 1, none⟩ (.int .i64 64)).setCell ⟨B, 2, none⟩ (.slice A2 3 c2)).setCell ⟨B, 3, none⟩ (.slice A3 3 c3)).setCell ⟨B, 4, none⟩ (.slice A4 3 c4)).setCell ⟨B, 5, none⟩ (.slice A5 3 c5)).setCell ⟨B, 6, none⟩ (.slice A6 n6 c6)).setCell ⟨B, 7, none⟩ (.slice A7 n7 c7)) B A2 A3 A4 A5 A6 A7 c2 c3 c4 c5 c6 c7 n6 n7 := by
  have := heap_setCell_same' 7 (.slice A7 n7 c7) (heap_setCell_same' 6 (.slice A6 n6 c6) (heap_setCell_same' 5 (.slice A5 3 c5) (heap_setCell_same' 4 (.slice A4 3 c4) (heap_setCell_same' 3 (.slice A3 3 c3) (heap_setCell_same' 2 (.slice A2 3 c2) (heap_setCell_same' 1 (.int .i64 64) (heap_setCell_same' 0 (.int .i64 32) h)))))))
  simpa [WBox] using this
theorem touch8 (W : World) (B : Nat) (v0 v1 v2 v3 v4 v5 v6 v7 : Value) : Touch (fun k => k = B) W ((((((((W.setCell ⟨B, 0, none⟩ v0).setCell ⟨B, 1, none⟩ v1).setCell ⟨B, 2, none⟩ v2).setCell ⟨B, 3, none⟩ v3).setCell ⟨B, 4, none⟩ v4).setCell ⟨B, 5, none⟩ v5).setCell ⟨B, 6, none⟩ v6).setCell ⟨B, 7, none⟩ v7) := by
  have s : ∀ (X : World) (i : Nat) (v : Value), Touch (fun k => k = B) X (X.setCell ⟨B, i, none⟩ v) := fun X i v => Touch.set X ⟨B, i, none⟩ v rfl
  exact (((((((s W 0 v0).trans (s _ 1 v1) (fun _ e => .inl e)).trans (s _ 2 v2) (fun _ e => .inl e)).trans (s _ 3 v3) (fun _ e => .inl e)).trans (s _ 4 v4) (fun _ e => .inl e)).trans (s _ 5 v5) (fun _ e => .inl e)).trans (s _ 6 v6) (fun _ e => .inl e)).trans (s _ 7 v7) (fun _ e => .inl e)
theorem Row3.touch {w w' : World} {g a b c : Nat} (h : Row3 w g a b c) {S : Nat → Prop} (ht : Touch S w w') (hg : ¬ S g) : Row3 w' g a b c := by
  have hb := ht.block g h.lt hg
  exact ⟨(World.cell?_of_block hb).trans h.c0, (World.cell?_of_block hb).trans h.c1, (World.cell?_of_block hb).trans h.c2⟩
/-- What lies between two rounds of Of: B the struct, g4 and g5 the tables, n0 the result's cell. -/
structure OfI (w : World) (n0 B p : Nat) (A6 A7 : Option Addr) (c6 c7 n6 n7 : Nat) (W : World) : Prop where
  box : WBox W B (some ⟨p, 0, none⟩) (some ⟨p + 1, 0, none⟩) (some ⟨p + 1 + 1, 0, none⟩) (some ⟨p + 1 + 1 + 1, 0, none⟩) A6 A7 3 3 3 3 c6 c7 n6 n7
  z : WZero W n0
  k : AtU W (B + 1) K64
  f : AtU W (B + 1 + 1) H64
  r2 : Row3 W p 2 13 22
  r3 : Row3 W (p + 1) 6 11 25
  r4 : Row3 W (p + 1 + 1) 7 18 3
  r5 : Row3 W (p + 1 + 1 + 1) 17 19 10
  b : Below n0 w W
  lt : n0 < B ∧ n0 < p ∧ p + 1 + 1 + 1 < B ∧ B + 1 + 1 < W.heap.size ∧ w.heap.size = n0
theorem OfI.far {w W W' : World} {n0 B p : Nat} {A6 A7 : Option Addr} {c6 c7 n6 n7 : Nat} (h : OfI w n0 B p A6 A7 c6 c7 n6 n7 W) {S : Nat → Prop} (ht : Touch S W W') (hS : ∀ k, S k → B + 1 + 1 < k) : OfI w n0 B p A6 A7 c6 c7 n6 n7 W' := by
  have h1 := h.lt
  have row : ∀ {g a b c}, Row3 W g a b c → g < B → Row3 W' g a b c := fun {g a b c} hr hg => by
    have hb : W'.heap[g]? = W.heap[g]? := ht.block g hr.lt (fun e => by have := hS _ e; omega)
    exact ⟨(World.cell?_of_block hb).trans hr.c0, (World.cell?_of_block hb).trans hr.c1, (World.cell?_of_block hb).trans hr.c2⟩
  refine ⟨ht.blk h.box (fun e => by have := hS _ e; omega), ht.blk h.z (fun e => by have := hS _ e; omega), ht.blk h.k (fun e => by have := hS _ e; omega), ht.blk h.f (fun e => by have := hS _ e; omega), row h.r2 (by omega), row h.r3 (by omega), row h.r4 (by omega), row h.r5 (by omega),
    h.b.trans (ht.to_below (by omega) (fun k e => by have := hS _ e; omega)), ⟨h1.1, h1.2.1, h1.2.2.1, Nat.lt_of_lt_of_le h1.2.2.2.1 ht.size, h1.2.2.2.2⟩⟩
theorem OfI.setW {w W : World} {n0 B p : Nat} {A6 A7 A6' A7' : Option Addr} {c6 c7 n6 n7 c6' c7' n6' n7' : Nat} (h : OfI w n0 B p A6 A7 c6 c7 n6 n7 W) (i : Nat) (v : Value) (hb : WBox (W.setCell ⟨B, i, none⟩ v) B (some ⟨p, 0, none⟩) (some ⟨p + 1, 0, none⟩) (some ⟨p + 1 + 1, 0, none⟩) (some ⟨p + 1 + 1 + 1, 0, none⟩) A6' A7' 3 3 3 3 c6' c7' n6' n7') : OfI w n0 B p A6' A7' c6' c7' n6' n7' (W.setCell ⟨B, i, none⟩ v) := by
  have h1 := h.lt
  have far : ∀ k, k ≠ B → (W.setCell ⟨B, i, none⟩ v).heap[k]? = W.heap[k]? := fun k hk => Below.heap_setCell _ _ _ _ hk
  have row : ∀ {g a b c}, Row3 W g a b c → g < B → Row3 (W.setCell ⟨B, i, none⟩ v) g a b c := fun {g a b c} hr hg =>
    ⟨(World.cell?_of_block (far g (by omega))).trans hr.c0, (World.cell?_of_block (far g (by omega))).trans hr.c1, (World.cell?_of_block (far g (by omega))).trans hr.c2⟩
  exact ⟨hb, (far n0 (by omega)).trans h.z, (far (B + 1) (by omega)).trans h.k, (far (B + 1 + 1) (by omega)).trans h.f, row h.r2 (by omega), row h.r3 (by omega), row h.r4 (by omega), row h.r5 (by omega), h.b.setCell (p := ⟨B, i, none⟩) (Nat.le_of_lt h1.1) v, ⟨h1.1, h1.2.1, h1.2.2.1, by simp [World.setCell]; exact h1.2.2.2.1, h1.2.2.2.2⟩⟩

set_option maxRecDepth 100000 in
set_option maxHeartbeats 16000000 in
theorem Of_calls (w : World) :
    Calls Tryd.prog 115 #[.int .i64 32] w fun e w' => ∃ (p g6 g7 c6 c7 : Nat), e = .returned (.agg #[.int .i64 32, .int .i64 64, .slice (some ⟨p, 0, none⟩) 3 3, .slice (some ⟨p + 1, 0, none⟩) 3 3, .slice (some ⟨p + 1 + 1, 0, none⟩) 3 3, .slice (some ⟨p + 1 + 1 + 1, 0, none⟩) 3 3, .slice (some ⟨g6, 0, none⟩) 64 c6, .slice (some ⟨g7, 0, none⟩) 8 c7]) ∧
      WRows w' p (p + 1) (p + 1 + 1) (p + 1 + 1 + 1) g6 ∧ ReadsInt w' .u64 (some ⟨g7, 0, none⟩) 8 (natsI H32) ∧ Below w.heap.size w w' := by
  obtain ⟨n0, hn0⟩ : ∃ n0, w.heap.size = n0 := ⟨_, rfl⟩
  have kF := fun w => form_calls w
  go_enter Tryd.func115, Tryd.ntmps115
  go_wp2_with (go_at_call 136; with_reducible refine (kF _).mono ?_; rintro e w1 ⟨p, hp, rfl, hr2, hr3, hr4, hr5, hb1⟩; have HP := Lib.hid hp; have HR2 := Lib.hid hr2; have HR3 := Lib.hid hr3; have HR4 := Lib.hid hr4; have HR5 := Lib.hid hr5; have HB1 := Lib.hid hb1; clear hp hr2 hr3 hr4 hr5 hb1)
  obtain ⟨B, hB⟩ : ∃ B, w1.heap.size = B := ⟨_, rfl⟩
  rw [hB]
  refine at_world (fun W0 => OfI w n0 B p none none 0 0 0 0 W0) ?_ ?_
  · have hb1 := HB1.out
    have hz : (w.alloc (.cells #[.int .i64 0, .int .i64 0, .slice none 0 0, .slice none 0 0, .slice none 0 0, .slice none 0 0, .slice none 0 0, .slice none 0 0] 144)).heap.size = n0 + 1 := by simp; omega
    have hp := HP.out
    rw [hz] at hb1 hp
    have h5 := HR5.out.lt
    have hzero : WZero w1 n0 := by
      have h0 : WZero (w.alloc (.cells #[.int .i64 0, .int .i64 0, .slice none 0 0, .slice none 0 0, .slice none 0 0, .slice none 0 0, .slice none 0 0, .slice none 0 0] 144)) n0 := hn0 ▸ heap_alloc_new w _
      exact (hb1.block n0 (by omega)).trans h0
    have hbw : Below n0 w w1 := ((Below.refl n0 w).alloc (Nat.le_of_eq hn0.symm) _).trans (hb1.mono (by omega))
    have a1 := Below.refl w1.heap.size w1 |>.alloc (Nat.le_refl _) (.cells #[.int .i64 32, .int .i64 64, .slice (some ⟨p, 0, none⟩) 3 3, .slice (some ⟨p + 1, 0, none⟩) 3 3, .slice (some ⟨p + 1 + 1, 0, none⟩) 3 3, .slice (some ⟨p + 1 + 1 + 1, 0, none⟩) 3 3, .slice none 0 0, .slice none 0 0] 144)
    refine ⟨?_, ?_, ?_, ?_, ?_, ?_, ?_, ?_, ?_, ?_⟩
    · exact hB ▸ ((WBox.new w1).below ((Below.refl _ _).alloc (Nat.le_refl _) _) (by simp <;> omega)).below ((Below.refl _ _).alloc (Nat.le_refl _) _) (by simp <;> omega)
    · exact (((a1.alloc (by simp <;> omega) _).alloc (by simp <;> omega) _).block n0 (by omega)).trans hzero
    · have h0 := heap_alloc_new (w1.alloc (.cells #[.int .i64 32, .int .i64 64, .slice (some ⟨p, 0, none⟩) 3 3, .slice (some ⟨p + 1, 0, none⟩) 3 3, .slice (some ⟨p + 1 + 1, 0, none⟩) 3 3, .slice (some ⟨p + 1 + 1 + 1, 0, none⟩) 3 3, .slice none 0 0, .slice none 0 0] 144)) (.cells (K64.map fun x : Nat => Value.int .u64 x).toArray 135)
      rw [World.size_alloc, hB] at h0
      exact (Below.heap_alloc _ _ _ (by simp <;> omega)).trans h0
    · have h0 := heap_alloc_new ((w1.alloc (.cells #[.int .i64 32, .int .i64 64, .slice (some ⟨p, 0, none⟩) 3 3, .slice (some ⟨p + 1, 0, none⟩) 3 3, .slice (some ⟨p + 1 + 1, 0, none⟩) 3 3, .slice (some ⟨p + 1 + 1 + 1, 0, none⟩) 3 3, .slice none 0 0, .slice none 0 0] 144)).alloc (.cells (K64.map fun x : Nat => Value.int .u64 x).toArray 135)) (.cells (H64.map fun x : Nat => Value.int .u64 x).toArray 135)
      rw [World.size_alloc, World.size_alloc, hB] at h0
      exact h0
    · exact HR2.out.below ((a1.alloc (by simp <;> omega) _).alloc (by simp <;> omega) _) HR2.out.lt
    · exact HR3.out.below ((a1.alloc (by simp <;> omega) _).alloc (by simp <;> omega) _) HR3.out.lt
    · exact HR4.out.below ((a1.alloc (by simp <;> omega) _).alloc (by simp <;> omega) _) HR4.out.lt
    · exact HR5.out.below ((a1.alloc (by simp <;> omega) _).alloc (by simp <;> omega) _) HR5.out.lt
    · exact hbw.trans (((a1.alloc (by simp <;> omega) _).alloc (by simp <;> omega) _).mono (by omega))
    · exact ⟨by omega, by omega, by omega, by simp; omega, hn0⟩
  clear hB HR2 HR3 HR4 HR5 HB1 HP kF hn0
  intro W0 hI0
  have HI0 := Lib.hid hI0
  clear hI0
  go_loopw [6] (fun v6 wr => ∃ (i c6 : Nat) (A6 : Option Addr), v6 = .int .i64 i ∧ i ≤ 64 ∧ OfI w n0 B p A6 none c6 0 i 0 wr ∧ wr.ownsRow (B + 1 + 1 + 1) 135 1 (.slice A6 i c6) i (nums .u64 (natsI (K32.take i)))) (fun v6 _ => 64 - (intOf v6).toNat)
  case atStart => exact ⟨0, 0, none, rfl, by omega, HI0.out, own_nil _ _ _ _⟩
  case round =>
    obtain ⟨i, c6, A6, rfl, hi, hI, hown⟩ := hrel
    obtain ⟨q0, q1, q2, q3, q4, q5, q6, q7⟩ := hI.box.cells
    by_cases hlt : i < 64
    · have hd : decide ((i : Int) < 64) = true := decide_eq_true (by omega)
      have hI1 : (i : Int) < 80 := by omega
      have hI2 : (i : Int).toNat = i := Int.toNat_natCast _
      have pk := hI.k.cell i (by show i < 80; omega)
      obtain ⟨Kv, hKv⟩ : ∃ Kv, Kv = K64.getD i 0 := ⟨_, rfl⟩
      rw [← hKv] at pk
      have hKb : Kv < 18446744073709551616 := by
        rw [hKv]; have key : ∀ j, j < 64 → K64.getD j 0 < 18446744073709551616 := by decide
        exact key i hlt
      obtain ⟨Z, hZ⟩ : ∃ Z, Z = Kv / 4294967296 := ⟨_, rfl⟩
      have kT := fun w' => top_calls (some ⟨p, 0, none⟩) (some ⟨p + 1, 0, none⟩) (some ⟨p + 1 + 1, 0, none⟩) (some ⟨p + 1 + 1 + 1, 0, none⟩) A6 none 3 3 3 3 c6 0 i 0 Kv hKb w'
      rw [← hZ] at kT
      have hsn : K32.take (i + 1) = K32.take i ++ [Z] := by rw [take_snocD K32 i (by rw [K32_len]; exact hlt), K32_at i hlt, ← hKv, ← hZ]
      have hb0 : B < wr.heap.size := by have := hI.lt; omega
      have hb1 : B + 1 < wr.heap.size := by have := hI.lt; omega
      have hb2 : B + 1 + 1 < wr.heap.size := by have := hI.lt; omega
      have HI := Lib.hid hI
      have HOWN := Lib.hid hown
      have HSN := Lib.hid hsn
      have KT := Lib.hid kT
      clear hI hown hsn hKb hKv hZ
      go_wp2
      refine calm_ ?_
      refine start_ (n := 12) (S := fun w' => Below wr.heap.size wr w') (ds := [9, 11]) #[false, false, false, false, false, false, false, false, false, false, false, false] (by kernel_rfl) rfl rfl ((Below.refl _ wr).drew) (fun hHeld => ?_)
      refine pure_ (i := 0) (N := some 18) (v := ?_) (a' := ?_) #[true, false, false, false, false, false, false, false, false, false, false, false] rfl rfl (by kernel_rfl) (fun _ _ _ h => h) (Or.inl ⟨by rfl, ?_⟩) ?_ ?_
      rotate_left
      · intro w'
        go_simp
        with_reducible rfl
      rotate_left
      · simp only [Act.put, List.setIfInBounds_toArray, List.set_cons_zero, List.set_cons_succ, i64_w, i32_w]
        rfl
      refine pure_ (i := 3) (N := some 21) (v := ?_) (a' := ?_) #[true, false, false, true, false, false, false, false, false, false, false, false] rfl rfl (by kernel_rfl) (fun _ _ _ h => h) (Or.inl ⟨by rfl, ?_⟩) ?_ ?_
      rotate_left
      · intro w'
        go_simp
        with_reducible rfl
      rotate_left
      · simp only [Act.put, List.setIfInBounds_toArray, List.set_cons_zero, List.set_cons_succ, i64_w, i32_w]
        rfl
      refine pure_ (i := 4) (N := some 22) (v := ?_) (a' := ?_) #[true, false, false, true, true, false, false, false, false, false, false, false] rfl rfl (by kernel_rfl) (fun _ _ _ h => h) (Or.inl ⟨by rfl, ?_⟩) ?_ ?_
      rotate_left
      · intro w'
        go_simp
        with_reducible rfl
      rotate_left
      · simp only [Act.put, List.setIfInBounds_toArray, List.set_cons_zero, List.set_cons_succ, i64_w, i32_w]
        rfl
      refine pure_ (i := 5) (N := some 23) (v := ?_) (a' := ?_) #[true, false, false, true, true, true, false, false, false, false, false, false] rfl rfl (by kernel_rfl) (fun _ _ _ h => h) (Or.inl ⟨by rfl, ?_⟩) ?_ ?_
      rotate_left
      · intro w'
        go_simp
        with_reducible rfl
      rotate_left
      · simp only [Act.put, List.setIfInBounds_toArray, List.set_cons_zero, List.set_cons_succ, i64_w, i32_w]
        rfl
      refine take_ (i := 1) (N := some 19) (v := ?_) (a' := ?_) #[true, true, false, true, true, true, false, false, false, false, false, false] rfl rfl (by kernel_rfl) (fun _ _ _ h => h) (Or.inl ⟨by rfl, ?_⟩) hHeld ?_ ?_
      rotate_left
      · intro w' s0
        have kc := bcell s0
        go_simp
        with_reducible rfl
      rotate_left
      · simp only [Act.put, List.setIfInBounds_toArray, List.set_cons_zero, List.set_cons_succ, i64_w, i32_w]
        rfl
      refine take_ (i := 2) (N := some 20) (v := ?_) (a' := ?_) #[true, true, true, true, true, true, false, false, false, false, false, false] rfl rfl (by kernel_rfl) (fun _ _ _ h => h) (Or.inl ⟨by rfl, ?_⟩) hHeld ?_ ?_
      rotate_left
      · intro w' s0
        have kc := bcell s0
        go_simp
        with_reducible rfl
      rotate_left
      · simp only [Act.put, List.setIfInBounds_toArray, List.set_cons_zero, List.set_cons_succ, i64_w, i32_w]
        rfl
      refine take_ (i := 6) (N := some 24) (v := ?_) (a' := ?_) #[true, true, true, true, true, true, true, false, false, false, false, false] rfl rfl (by kernel_rfl) (fun _ _ _ h => h) (Or.inl ⟨by rfl, ?_⟩) hHeld ?_ ?_
      rotate_left
      · intro w' s0
        have kc := bcell s0
        go_simp
        with_reducible rfl
      rotate_left
      · simp only [Act.put, List.setIfInBounds_toArray, List.set_cons_zero, List.set_cons_succ, i64_w, i32_w]
        rfl
      refine one_ (i := 7) (N := some 25) #[true, true, true, true, true, true, true, true, false, false, false, false] rfl rfl (by kernel_rfl) (by decide) (fun K hK => ?_)
      refine goes_ Tryd.func137 (by kernel_rfl) rfl #[.agg #[.int .i64 32, .int .i64 64, .slice (some ⟨p, 0, none⟩) 3 3, .slice (some ⟨p + 1, 0, none⟩) 3 3, .slice (some ⟨p + 1 + 1, 0, none⟩) 3 3, .slice (some ⟨p + 1 + 1 + 1, 0, none⟩) 3 3, .slice A6 i c6, .slice none 0 0], .int .u64 Kv] (by rfl) rfl rfl (by simp only [List.map_toArray, List.map_cons, List.map_nil]; rfl) ?_
      with_reducible refine (kT _).mono ?_
      rintro e y1 ⟨rfl, hb_y1⟩
      refine ⟨_, rfl, ?_⟩
      have hq_y1 := hHeld.trans (hb_y1.mono hHeld.size)
      refine hK.out _ _ (hq_y1) (fun hHeld => ?_)
      clear hK K
      refine norm_ (a' := ?_) ?_ ?_
      rotate_left
      · show Act.put _ (some 25) _ = _
        simp only [Act.put, List.setIfInBounds_toArray, List.set_cons_zero, List.set_cons_succ, i64_w, i32_w]
        rfl
      refine one_ (i := 8) (N := some 26) #[true, true, true, true, true, true, true, true, true, false, false, false] rfl rfl (by kernel_rfl) (by decide) (fun K hK => ?_)
      refine value_ (w1 := ?_) (v := ?_) (by rfl) rfl ?_ ?_
      rotate_left 2
      · go_simp
        constructor
        · rfl
        · rfl
      refine hK.out _ _ ((hHeld.alloc hHeld.size _)) (fun hHeld => ?_)
      clear hK K
      refine norm_ (a' := ?_) ?_ ?_
      rotate_left
      · show Act.put _ (some 26) _ = _
        simp only [Act.put, List.setIfInBounds_toArray, List.set_cons_zero, List.set_cons_succ, i64_w, i32_w]
        rfl
      refine last_ (i := 9) (N := some 27) #[true, true, true, true, true, true, true, true, true, true, false, false] rfl rfl (by kernel_rfl) (by decide) (fun K hK => ?_)
      have hIy := HI.out.far (S := fun _ => False) (Touch.of_below hq_y1) (fun _ e => e.elim)
      refine step_append_cells (W := y1) (w0 := y1) (B + 1 + 1 + 1) (by rfl) (.tmp 19) (.tmp 26) 142 135 (.int .u64 0) 1 8 rfl Tryd.underlying142 inf135 rfl (by decide) (by decide) (.slice A6 i c6) i (nums .u64 (natsI (K32.take i))) [.int .u64 (Z : Nat)] (by rfl) (by rfl) rfl (by simp [Value.oneCell']) (pw_own_below HOWN.out hq_y1) (Below.refl _ _) (by have := hIy.lt; omega) (by omega) ?_
      intro v6 w6 hown6 hB6 hg6 hat6
      obtain ⟨g9, c9, rfl, _⟩ := own_form2 hown6 (by omega)
      have hI6 := hIy.far (S := fun k => some k = (.slice A6 i c6 : Value).ownBlock) (Touch.grown hg6 (fun k e => e.symm)) (fun k e => own_base HOWN.out k e.symm)
      have u6 := hI6.box.cells.2.2.2.2.2.2.1
      have uf := hI6.box.frozen 6
      have HO6 := Lib.hid hown6
      have HI6 := Lib.hid hI6
      have HG6 := Lib.hid hg6
      have HAT6 := Lib.hid hat6
      have HQ1 := Lib.hid hq_y1
      clear hown6 hB6 hg6 hIy hI6 hat6
      refine hK.out _ _ ?_
      clear hK K
      refine norm_ (a' := ?_) ?_ ?_
      rotate_left
      · show Act.put _ (some 27) _ = _
        simp only [Act.put, List.setIfInBounds_toArray, List.set_cons_zero, List.set_cons_succ, i64_w, i32_w]
        rfl
      refine pure_ (i := 10) (N := some 28) (v := ?_) (a' := ?_) #[true, true, true, true, true, true, true, true, true, true, true, false] rfl rfl (by kernel_rfl) (fun _ _ _ h => h) (Or.inl ⟨by rfl, ?_⟩) ?_ ?_
      rotate_left
      · intro w'
        go_simp
        with_reducible rfl
      rotate_left
      · simp only [Act.put, List.setIfInBounds_toArray, List.set_cons_zero, List.set_cons_succ, i64_w, i32_w]
        rfl
      refine last_ (i := 11) (N := none) #[true, true, true, true, true, true, true, true, true, true, true, true] rfl rfl (by kernel_rfl) (by decide) (fun K hK => ?_)
      refine skip_ (w1 := ?_) (by rfl) rfl ?_ ?_
      rotate_left
      · go_simp
        rfl
      refine hK.out _ _ ?_
      clear hK K
      refine done_ (by kernel_rfl) ?_
      simp only [calmly]
      go_wp2
      refine ⟨⟨i + 1, c9, _, rfl, by omega, HI6.out.setW 6 _ (HI6.out.box.setK _ _ _), ?_⟩, by simp only [intOf]; omega⟩
      have ho := HO6.out
      rw [show nums .u64 (natsI (K32.take i)) ++ [Value.int .u64 (Z : Int)] = nums .u64 (natsI (K32.take (i + 1))) by rw [HSN.out, natsI_append, nums_append]; rfl] at ho
      exact own_blk ho fun g hg => Below.heap_setCell _ _ _ _ (fun e => by have := own_base ho g hg; have : g = B := e; omega)
    · have hd : decide ((i : Int) < 64) = false := decide_eq_false (by omega)
      have hi64 : i = 64 := by omega
      subst hi64
      obtain ⟨g6, cc, hcc, _⟩ := own_form2 hown (by omega)
      cases hcc
      rw [List.take_of_length_le (Nat.le_of_eq K32_len)] at hown
      have HI1 := Lib.hid hI
      have HOK1 := Lib.hid hown
      clear hI hown HI0
      go_wp2
      clear q0 q1 q2 q3 q4 q5 q6 q7
      go_loopw [7] (fun v7 wr => ∃ (i c7 : Nat) (A7 : Option Addr), v7 = .int .i64 i ∧ i ≤ 8 ∧ OfI w n0 B p (some ⟨g6, 0, none⟩) A7 c6 c7 64 i wr ∧ wr.ownsRow (B + 1 + 1 + 1) 135 1 (.slice (some ⟨g6, 0, none⟩) 64 c6) 64 (nums .u64 (natsI K32)) ∧ wr.ownsRow (B + 1 + 1 + 1) 135 1 (.slice A7 i c7) i (nums .u64 (natsI (H32.take i))) ∧ (∀ g, (Value.slice A7 i c7).ownBlock = some g → g ≠ g6)) (fun v7 _ => 8 - (intOf v7).toNat)
      case atStart => exact ⟨0, 0, none, rfl, by omega, HI1.out, HOK1.out, own_nil _ _ _ _, fun g e => by cases e⟩
      case round =>
        clear HI1 HOK1
        obtain ⟨i, c7, A7, rfl, hi, hI, hownK, hown, hap⟩ := hrel
        obtain ⟨q0, q1, q2, q3, q4, q5, q6, q7⟩ := hI.box.cells
        by_cases hlt : i < 8
        · have hd : decide ((i : Int) < 8) = true := decide_eq_true (by omega)
          have hI1 : (i : Int) < 8 := by omega
          have hI2 : (i : Int).toNat = i := Int.toNat_natCast _
          have pk := hI.f.cell i (by show i < 8; omega)
          obtain ⟨Kv, hKv⟩ : ∃ Kv, Kv = H64.getD i 0 := ⟨_, rfl⟩
          rw [← hKv] at pk
          have hKb : Kv < 18446744073709551616 := by
            rw [hKv]; have key : ∀ j, j < 8 → H64.getD j 0 < 18446744073709551616 := by decide
            exact key i hlt
          obtain ⟨Z, hZ⟩ : ∃ Z, Z = Kv / 4294967296 := ⟨_, rfl⟩
          have kT := fun w' => top_calls (some ⟨p, 0, none⟩) (some ⟨p + 1, 0, none⟩) (some ⟨p + 1 + 1, 0, none⟩) (some ⟨p + 1 + 1 + 1, 0, none⟩) (some ⟨g6, 0, none⟩) A7 3 3 3 3 c6 c7 64 i Kv hKb w'
          rw [← hZ] at kT
          have hsn : H32.take (i + 1) = H32.take i ++ [Z] := by rw [take_snocD H32 i (by rw [H32_len]; exact hlt), H32_at i hlt, ← hKv, ← hZ]
          have hb0 : B < wr.heap.size := by have := hI.lt; omega
          have hb1 : B + 1 < wr.heap.size := by have := hI.lt; omega
          have hb2 : B + 1 + 1 < wr.heap.size := by have := hI.lt; omega
          have HI := Lib.hid hI
          have HOWN := Lib.hid hown
          have HSN := Lib.hid hsn
          have KT := Lib.hid kT
          have HOK := Lib.hid hownK
          have HAP := Lib.hid hap
          clear hownK hap
          clear hI hown hsn hKb hKv hZ
          go_wp2
          refine calm_ ?_
          refine start_ (n := 12) (S := fun w' => Below wr.heap.size wr w') (ds := [9, 11]) #[false, false, false, false, false, false, false, false, false, false, false, false] (by kernel_rfl) rfl rfl ((Below.refl _ wr).drew) (fun hHeld => ?_)
          refine pure_ (i := 0) (N := some 33) (v := ?_) (a' := ?_) #[true, false, false, false, false, false, false, false, false, false, false, false] rfl rfl (by kernel_rfl) (fun _ _ _ h => h) (Or.inl ⟨by rfl, ?_⟩) ?_ ?_
          rotate_left
          · intro w'
            go_simp
            with_reducible rfl
          rotate_left
          · simp only [Act.put, List.setIfInBounds_toArray, List.set_cons_zero, List.set_cons_succ, i64_w, i32_w]
            rfl
          refine pure_ (i := 3) (N := some 36) (v := ?_) (a' := ?_) #[true, false, false, true, false, false, false, false, false, false, false, false] rfl rfl (by kernel_rfl) (fun _ _ _ h => h) (Or.inl ⟨by rfl, ?_⟩) ?_ ?_
          rotate_left
          · intro w'
            go_simp
            with_reducible rfl
          rotate_left
          · simp only [Act.put, List.setIfInBounds_toArray, List.set_cons_zero, List.set_cons_succ, i64_w, i32_w]
            rfl
          refine pure_ (i := 4) (N := some 37) (v := ?_) (a' := ?_) #[true, false, false, true, true, false, false, false, false, false, false, false] rfl rfl (by kernel_rfl) (fun _ _ _ h => h) (Or.inl ⟨by rfl, ?_⟩) ?_ ?_
          rotate_left
          · intro w'
            go_simp
            with_reducible rfl
          rotate_left
          · simp only [Act.put, List.setIfInBounds_toArray, List.set_cons_zero, List.set_cons_succ, i64_w, i32_w]
            rfl
          refine pure_ (i := 5) (N := some 38) (v := ?_) (a' := ?_) #[true, false, false, true, true, true, false, false, false, false, false, false] rfl rfl (by kernel_rfl) (fun _ _ _ h => h) (Or.inl ⟨by rfl, ?_⟩) ?_ ?_
          rotate_left
          · intro w'
            go_simp
            with_reducible rfl
          rotate_left
          · simp only [Act.put, List.setIfInBounds_toArray, List.set_cons_zero, List.set_cons_succ, i64_w, i32_w]
            rfl
          refine take_ (i := 1) (N := some 34) (v := ?_) (a' := ?_) #[true, true, false, true, true, true, false, false, false, false, false, false] rfl rfl (by kernel_rfl) (fun _ _ _ h => h) (Or.inl ⟨by rfl, ?_⟩) hHeld ?_ ?_
          rotate_left
          · intro w' s0
            have kc := bcell s0
            go_simp
            with_reducible rfl
          rotate_left
          · simp only [Act.put, List.setIfInBounds_toArray, List.set_cons_zero, List.set_cons_succ, i64_w, i32_w]
            rfl
          refine take_ (i := 2) (N := some 35) (v := ?_) (a' := ?_) #[true, true, true, true, true, true, false, false, false, false, false, false] rfl rfl (by kernel_rfl) (fun _ _ _ h => h) (Or.inl ⟨by rfl, ?_⟩) hHeld ?_ ?_
          rotate_left
          · intro w' s0
            have kc := bcell s0
            go_simp
            with_reducible rfl
          rotate_left
          · simp only [Act.put, List.setIfInBounds_toArray, List.set_cons_zero, List.set_cons_succ, i64_w, i32_w]
            rfl
          refine take_ (i := 6) (N := some 39) (v := ?_) (a' := ?_) #[true, true, true, true, true, true, true, false, false, false, false, false] rfl rfl (by kernel_rfl) (fun _ _ _ h => h) (Or.inl ⟨by rfl, ?_⟩) hHeld ?_ ?_
          rotate_left
          · intro w' s0
            have kc := bcell s0
            go_simp
            with_reducible rfl
          rotate_left
          · simp only [Act.put, List.setIfInBounds_toArray, List.set_cons_zero, List.set_cons_succ, i64_w, i32_w]
            rfl
          refine one_ (i := 7) (N := some 40) #[true, true, true, true, true, true, true, true, false, false, false, false] rfl rfl (by kernel_rfl) (by decide) (fun K hK => ?_)
          refine goes_ Tryd.func137 (by kernel_rfl) rfl #[.agg #[.int .i64 32, .int .i64 64, .slice (some ⟨p, 0, none⟩) 3 3, .slice (some ⟨p + 1, 0, none⟩) 3 3, .slice (some ⟨p + 1 + 1, 0, none⟩) 3 3, .slice (some ⟨p + 1 + 1 + 1, 0, none⟩) 3 3, .slice (some ⟨g6, 0, none⟩) 64 c6, .slice A7 i c7], .int .u64 Kv] (by rfl) rfl rfl (by simp only [List.map_toArray, List.map_cons, List.map_nil]; rfl) ?_
          with_reducible refine (kT _).mono ?_
          rintro e y1 ⟨rfl, hb_y1⟩
          refine ⟨_, rfl, ?_⟩
          have hq_y1 := hHeld.trans (hb_y1.mono hHeld.size)
          refine hK.out _ _ (hq_y1) (fun hHeld => ?_)
          clear hK K
          refine norm_ (a' := ?_) ?_ ?_
          rotate_left
          · show Act.put _ (some 40) _ = _
            simp only [Act.put, List.setIfInBounds_toArray, List.set_cons_zero, List.set_cons_succ, i64_w, i32_w]
            rfl
          refine one_ (i := 8) (N := some 41) #[true, true, true, true, true, true, true, true, true, false, false, false] rfl rfl (by kernel_rfl) (by decide) (fun K hK => ?_)
          refine value_ (w1 := ?_) (v := ?_) (by rfl) rfl ?_ ?_
          rotate_left 2
          · go_simp
            constructor
            · rfl
            · rfl
          refine hK.out _ _ ((hHeld.alloc hHeld.size _)) (fun hHeld => ?_)
          clear hK K
          refine norm_ (a' := ?_) ?_ ?_
          rotate_left
          · show Act.put _ (some 41) _ = _
            simp only [Act.put, List.setIfInBounds_toArray, List.set_cons_zero, List.set_cons_succ, i64_w, i32_w]
            rfl
          refine last_ (i := 9) (N := some 42) #[true, true, true, true, true, true, true, true, true, true, false, false] rfl rfl (by kernel_rfl) (by decide) (fun K hK => ?_)
          have hIy := HI.out.far (S := fun _ => False) (Touch.of_below hq_y1) (fun _ e => e.elim)
          refine step_append_cells (W := y1) (w0 := y1) (B + 1 + 1 + 1) (by rfl) (.tmp 34) (.tmp 41) 142 135 (.int .u64 0) 1 8 rfl Tryd.underlying142 inf135 rfl (by decide) (by decide) (.slice A7 i c7) i (nums .u64 (natsI (H32.take i))) [.int .u64 (Z : Nat)] (by rfl) (by rfl) rfl (by simp [Value.oneCell']) (pw_own_below HOWN.out hq_y1) (Below.refl _ _) (by have := hIy.lt; omega) (by omega) ?_
          intro v6 w6 hown6 hB6 hg6 hat6
          obtain ⟨g9, c9, rfl, _⟩ := own_form2 hown6 (by omega)
          have hI6 := hIy.far (S := fun k => some k = (.slice A7 i c7 : Value).ownBlock) (Touch.grown hg6 (fun k e => e.symm)) (fun k e => own_base HOWN.out k e.symm)
          have u7 := hI6.box.cells.2.2.2.2.2.2.2
          have uf := hI6.box.frozen 7
          have HO6 := Lib.hid hown6
          have HI6 := Lib.hid hI6
          have HG6 := Lib.hid hg6
          have HAT6 := Lib.hid hat6
          have HQ1 := Lib.hid hq_y1
          clear hown6 hB6 hg6 hIy hI6 hat6
          refine hK.out _ _ ?_
          clear hK K
          refine norm_ (a' := ?_) ?_ ?_
          rotate_left
          · show Act.put _ (some 42) _ = _
            simp only [Act.put, List.setIfInBounds_toArray, List.set_cons_zero, List.set_cons_succ, i64_w, i32_w]
            rfl
          refine pure_ (i := 10) (N := some 43) (v := ?_) (a' := ?_) #[true, true, true, true, true, true, true, true, true, true, true, false] rfl rfl (by kernel_rfl) (fun _ _ _ h => h) (Or.inl ⟨by rfl, ?_⟩) ?_ ?_
          rotate_left
          · intro w'
            go_simp
            with_reducible rfl
          rotate_left
          · simp only [Act.put, List.setIfInBounds_toArray, List.set_cons_zero, List.set_cons_succ, i64_w, i32_w]
            rfl
          refine last_ (i := 11) (N := none) #[true, true, true, true, true, true, true, true, true, true, true, true] rfl rfl (by kernel_rfl) (by decide) (fun K hK => ?_)
          refine skip_ (w1 := ?_) (by rfl) rfl ?_ ?_
          rotate_left
          · go_simp
            rfl
          refine hK.out _ _ ?_
          clear hK K
          refine done_ (by kernel_rfl) ?_
          simp only [calmly]
          go_wp2
          have hgk := (HOK.out.lt g6 rfl).2
          have hap2 : ∀ g, (Value.slice (some ⟨g9, 0, none⟩) (i + 1) c9).ownBlock = some g → g ≠ g6 := fun g hg => by
            rcases HAT6.out with e | ⟨b, e, hb⟩
            · exact HAP.out g (e ▸ hg)
            · rw [hg] at e; cases e; have := HQ1.out.size; omega
          refine ⟨⟨i + 1, c9, _, rfl, by omega, HI6.out.setW 7 _ (HI6.out.box.setF _ _ _), ?_, ?_, hap2⟩, by simp only [intOf]; omega⟩
          · refine own_blk (own_blk (pw_own_below HOK.out HQ1.out) fun g hg => HG6.out.block g ?_ ?_) fun g hg => Below.heap_setCell _ _ _ _ (fun e => by have := own_base HOK.out g hg; have : g = B := e; omega)
            · have := HQ1.out.size; have hgg : g6 = g := Option.some.inj hg; omega
            · intro e; have hgg : g6 = g := Option.some.inj hg; exact HAP.out g e.symm hgg.symm
          · have ho := HO6.out
            rw [show nums .u64 (natsI (H32.take i)) ++ [Value.int .u64 (Z : Int)] = nums .u64 (natsI (H32.take (i + 1))) by rw [HSN.out, natsI_append, nums_append]; rfl] at ho
            exact own_blk ho fun g hg => Below.heap_setCell _ _ _ _ (fun e => by have := own_base ho g hg; have : g = B := e; omega)
        · have hd : decide ((i : Int) < 8) = false := decide_eq_false (by omega)
          have hi8 : i = 8 := by omega
          subst hi8
          obtain ⟨g7, cc, hcc, _⟩ := own_form2 hown (by omega)
          cases hcc
          rw [List.take_of_length_le (Nat.le_of_eq H32_len)] at hown
          obtain ⟨y0, y1, y2, y3, y4, y5, y6, y7⟩ := hI.z.cells
          have f0 := hI.z.frozen 0
          have f1 := hI.z.frozen 1
          have f2 := hI.z.frozen 2
          have f3 := hI.z.frozen 3
          have f4 := hI.z.frozen 4
          have f5 := hI.z.frozen 5
          have f6 := hI.z.frozen 6
          have f7 := hI.z.frozen 7
          have HI1 := Lib.hid hI
          have HOK1 := Lib.hid hownK
          have HOF1 := Lib.hid hown
          clear hI hownK hown hap
          go_wp2
          refine ret_world (fun W0 => WBox W0 n0 (some ⟨p, 0, none⟩) (some ⟨p + 1, 0, none⟩) (some ⟨p + 1 + 1, 0, none⟩) (some ⟨p + 1 + 1 + 1, 0, none⟩) (some ⟨g6, 0, none⟩) (some ⟨g7, 0, none⟩) 3 3 3 3 c6 c7 64 8 ∧ Touch (fun k => k = n0) wr W0) ⟨HI1.out.z.fill, touch8 _ _ _ _ _ _ _ _ _ _⟩ ?_
          clear y0 y1 y2 y3 y4 y5 y6 y7 f0 f1 f2 f3 f4 f5 f6 f7 q0 q1 q2 q3 q4 q5 q6 q7
          rintro W9 ⟨hb9, ht9⟩
          obtain ⟨q0, q1, q2, q3, q4, q5, q6, q7⟩ := hb9.cells
          have hlt9 := HI1.out.lt
          have hgk := own_base HOK1.out g6 rfl
          have hgf := own_base HOF1.out g7 rfl
          refine bodyPost_ret (v := .agg #[.int .i64 32, .int .i64 64, .slice (some ⟨p, 0, none⟩) 3 3, .slice (some ⟨p + 1, 0, none⟩) 3 3, .slice (some ⟨p + 1 + 1, 0, none⟩) 3 3, .slice (some ⟨p + 1 + 1 + 1, 0, none⟩) 3 3, .slice (some ⟨g6, 0, none⟩) 64 c6, .slice (some ⟨g7, 0, none⟩) 8 c7]) ?_ rfl ⟨p, g6, g7, c6, c7, rfl, ⟨HI1.out.r2.touch ht9 (by omega), HI1.out.r3.touch ht9 (by omega), HI1.out.r4.touch ht9 (by omega), HI1.out.r5.touch ht9 (by omega), fun j hj => ?_⟩, ?_, ?_⟩
          · simp [results, Tryd.results115, go_sem, q0, q1, q2, q3, q4, q5, q6, q7]
          · exact (World.cell?_of_block (ht9.block g6 (HOK1.out.lt g6 rfl).2 (by omega))).trans (OwnU.cell HOK1.out j hj).1
          · exact own_reads' (own_blk HOF1.out fun g hg => ht9.block g (HOF1.out.lt g hg).2 (by have hgg : g7 = g := Option.some.inj hg; omega))
          · rw [hlt9.2.2.2.2]
            exact HI1.out.b.trans (ht9.to_below (by omega) (fun k e => by omega))
end Go.Proofs.YtoeibcdnhglobaaDoor.P

/- pantileref01: Sum: the walk. Printed by wip/tools/gensumr.py. -/
namespace Go.Proofs.YtoeibcdnhglobaaDoor.P
set_option linter.unusedVariables false
set_option linter.unusedSimpArgs false
open Go.RowKit Go.Shelf Go.Proofs.YtoeibcdnhglobaaDoorW.PrintWords Go.Proofs.YtoeibcdnhglobaaDoorW.PrintLast Go.Proofs.YtoeibcdnhglobaaDoorW.PrintMore
open Go.Proofs.YtoeibcdnhglobaaDoor.Pure

/-- The last k of a word's four bytes, behind zeros. -/
def low4 (n k : Nat) : List Int := List.replicate (4 - k) 0 ++ (b4 n).drop (4 - k)
theorem low4_4 (n : Nat) : low4 n 4 = b4 n := by simp [low4, b4]
theorem low4_set (n k : Nat) (hk : k < 4) : (low4 n k).set (3 - k) ((n / 256 ^ k % 256 : Nat) : Int) = low4 n (k + 1) := by
  have hc : k = 0 ∨ k = 1 ∨ k = 2 ∨ k = 3 := by omega
  rcases hc with rfl | rfl | rfl | rfl <;> simp [low4, b4, List.replicate]
theorem low4_0 (n : Nat) : low4 n 0 = List.replicate 4 0 := by simp [low4, b4]
theorem low4_length (n k : Nat) (hk : k ≤ 4) : (low4 n k).length = 4 := by simp [low4, b4] <;> omega
/-- What lies between two blocks of Sum: n0 the struct's copy, q the blocks done. -/
structure SR (w : World) (n0 p g6 g7 c6 c7 : Nat) (T : List Int) (q rest c2 gs : Nat) (A2 : Option Addr) (W : World) : Prop where
  box : WBox W n0 (some ⟨p, 0, none⟩) (some ⟨p + 1, 0, none⟩) (some ⟨p + 1 + 1, 0, none⟩) (some ⟨p + 1 + 1 + 1, 0, none⟩) (some ⟨g6, 0, none⟩) (some ⟨g7, 0, none⟩) 3 3 3 3 c6 c7 64 8
  rows : WRows W p (p + 1) (p + 1 + 1) (p + 1 + 1 + 1) g6
  all : ReadsInt W .u8 A2 rest (T.drop (64 * q))
  st : ReadsInt W .u64 (some ⟨gs, 0, none⟩) 8 (natsI (runB H32 T q))
  b : Below n0 w W
  n : rest = T.length - 64 * q ∧ rest ≤ c2 ∧ 64 * q ≤ T.length
theorem SR.below {w W W' : World} {n0 p g6 g7 c6 c7 : Nat} {T : List Int} {q rest c2 gs : Nat} {A2 : Option Addr} (h : SR w n0 p g6 g7 c6 c7 T q rest c2 gs A2 W) (hb : Below W.heap.size W W') : SR w n0 p g6 g7 c6 c7 T q rest c2 gs A2 W' :=
  ⟨(hb.block n0 h.box.lt).trans h.box, h.rows.below hb, h.all.below hb, h.st.below hb, h.b.trans (hb.mono (Nat.le_of_lt h.box.lt)), h.n⟩

set_option maxRecDepth 100000 in
set_option maxHeartbeats 16000000 in
theorem SumR_calls (p g6 g7 c6 c7 : Nat) (d : List Int) (A : Option Addr) (c : Nat) (w : World) (hW : WRows w p (p + 1) (p + 1 + 1) (p + 1 + 1 + 1) g6) (hF : ReadsInt w .u64 (some ⟨g7, 0, none⟩) 8 (natsI H32)) (hr : ReadsInt w .u8 A d.length d) (hb : ∀ x ∈ d, 0 ≤ x ∧ x < 256) (hl : d.length < 549755813888) :
    Calls Tryd.prog 116 #[.agg #[.int .i64 32, .int .i64 64, .slice (some ⟨p, 0, none⟩) 3 3, .slice (some ⟨p + 1, 0, none⟩) 3 3, .slice (some ⟨p + 1 + 1, 0, none⟩) 3 3, .slice (some ⟨p + 1 + 1 + 1, 0, none⟩) 3 3, .slice (some ⟨g6, 0, none⟩) 64 c6, .slice (some ⟨g7, 0, none⟩) 8 c7], .slice A d.length c] w fun e w' => ∃ v', e = .returned v' ∧ OwnB w' w.heap.size v' (shaN d) ∧ Below w.heap.size w w' := by
  obtain ⟨n0, hn0⟩ : ∃ n0, w.heap.size = n0 := ⟨_, rfl⟩
  obtain ⟨T, hT⟩ : ∃ T, T = tailN d d.length := ⟨_, rfl⟩
  have hTl : T.length < 549755814888 := by rw [hT, tailN_length]; unfold zc; omega
  have hTm : T.length % 64 = 0 := by rw [hT]; exact tailN_mod _ _
  have hTb : ∀ x ∈ T, 0 ≤ x ∧ x < 256 := by rw [hT]; exact tailN_ok _ _ hb
  have hb0 : Below w.heap.size w (w.alloc (.cells #[.int .i64 32, .int .i64 64, .slice (some ⟨p, 0, none⟩) 3 3, .slice (some ⟨p + 1, 0, none⟩) 3 3, .slice (some ⟨p + 1 + 1, 0, none⟩) 3 3, .slice (some ⟨p + 1 + 1 + 1, 0, none⟩) 3 3, .slice (some ⟨g6, 0, none⟩) 64 c6, .slice (some ⟨g7, 0, none⟩) 8 c7] 144)) := (Below.refl _ w).alloc (Nat.le_refl _) _
  have hbx := WBox.new w (A2 := some ⟨p, 0, none⟩) (A3 := some ⟨p + 1, 0, none⟩) (A4 := some ⟨p + 1 + 1, 0, none⟩) (A5 := some ⟨p + 1 + 1 + 1, 0, none⟩) (A6 := some ⟨g6, 0, none⟩) (A7 := some ⟨g7, 0, none⟩) (c2 := 3) (c3 := 3) (c4 := 3) (c5 := 3) (c6 := c6) (c7 := c7) (n6 := 64) (n7 := 8)
  rw [hn0] at hbx
  have hP := Pad_calls (some ⟨p, 0, none⟩) (some ⟨p + 1, 0, none⟩) (some ⟨p + 1 + 1, 0, none⟩) (some ⟨p + 1 + 1 + 1, 0, none⟩) (some ⟨g6, 0, none⟩) (some ⟨g7, 0, none⟩) 3 3 3 3 c6 c7 64 8 A c d _ (hr.below hb0) (by omega)
  have HW := Lib.hid (hW.below hb0)
  have HF := Lib.hid (hF.below hb0)
  have HT := Lib.hid hT
  have HTL := Lib.hid hTl
  have HTM := Lib.hid hTm
  have HTB := Lib.hid hTb
  have HBX := Lib.hid hbx
  have HN := Lib.hid hn0
  have HB0 := Lib.hid hb0
  rw [← hT] at hP
  clear hW hF hr hb hl hT hTl hTm hTb hbx hb0
  go_enter Tryd.func116, Tryd.ntmps116
  go_wp2_with (first
    | (go_at_call 138; go_loud (with_reducible refine hP.mono ?_; rintro e w1 ⟨v1, rfl, hown1, hb1⟩; have hq1 := (HBX.out.below hb1 HBX.out.lt).cells.2.2.2.2.2.2.2; have hF1 := HF.out.below hb1; have hb2 := Below.refl w1.heap.size w1; have HO1 := Lib.hid hown1; have HB1 := Lib.hid hb1; clear hown1 hb1))
    | (at_builtin; go_loud (refine print_append_row (w0 := w1) w1.heap.size rfl _ _ 142 135 .u64 8 rfl Tryd.underlying142 inf135 (by decide) (.slice none 0 0) [] (natsI H32) (some ⟨g7, 0, none⟩) 8 c7 rfl rfl (own_nil _ _ _ _) hF1 hb2 (Nat.le_refl _) (by decide) ?_; intro v6 w6 hown6 hB6 hg6 _; have HO6 := Lib.hid hown6; have HB6 := Lib.hid hB6; clear hown6 hB6 hg6 hq1 hF1)))
  obtain ⟨A1, k1, rfl, hk1⟩ := own_form HO1.out
  obtain ⟨g6', c6', rfl, hc6'⟩ := own_form2 HO6.out (by rw [List.nil_append, natsI_length, H32_len]; omega)
  have hL8 : (([] : List Int) ++ natsI H32).length = 8 := by rw [List.nil_append, natsI_length, H32_len]
  rw [hL8] at HO6 ⊢
  have hsr : SR w n0 p g6 g7 c6 c7 T 0 T.length k1 g6' A1 w6 := by
    have h16 : Below w1.heap.size w1 w6 := HB6.out
    have hW1 := HB1.out
    refine ⟨(h16.block n0 ?_).trans (HBX.out.below hW1 HBX.out.lt), (HW.out.below hW1).below h16, ?_, ?_, ?_, ⟨by omega, hk1, by omega⟩⟩
    · exact Nat.lt_of_lt_of_le HBX.out.lt hW1.size
    · simpa using (own_reads' HO1.out).below h16
    · simpa [runB] using own_reads' HO6.out
    · rw [← HN.out]
      exact HB0.out.trans ((hW1.mono HB0.out.size).trans (h16.mono (Nat.le_trans HB0.out.size hW1.size)))
  have HSR := Lib.hid hsr
  clear hsr HO1 HB1 HO6 HB6 HBX HW HF hP HB0 hb2 hk1 hc6' hL8 hn0
  go_loopw [5, 6] (fun v5 v6 wr => ∃ (q rest c2 gs cs : Nat) (A2 : Option Addr), v5 = .slice A2 rest c2 ∧ v6 = .slice (some ⟨gs, 0, none⟩) 8 cs ∧ SR w n0 p g6 g7 c6 c7 T q rest c2 gs A2 wr) (fun v5 _ _ => match v5 with | .slice _ r _ => r | _ => 0)
  case atStart => exact ⟨0, T.length, k1, g6', c6', A1, rfl, rfl, HSR.out⟩
  case round =>
    clear HSR
    obtain ⟨q, rest, c2, gs, cs, A2, rfl, rfl, hS⟩ := hrel
    obtain ⟨q0, q1, q2, q3, q4, q5, q6, q7⟩ := hS.box.cells
    by_cases hlt : 0 < rest
    · have hd : decide ((0 : Int) < (rest : Int)) = true := decide_eq_true (by omega)
      have hn := hS.n
      have hr64 : 64 ≤ rest := by have := HTM.out; omega
      have hge' : (64 : Int) ≤ (rest : Int) := by omega
      have hgc' : (64 : Int) ≤ (c2 : Int) := by omega
      have hc64 : 64 ≤ c2 := by omega
      have hok := runB_ok H32 T H32_ok q
      have hbl : ((T.drop (64 * q)).take 64).length = 64 := by rw [List.length_take, List.length_drop]; omega
      have hby : ∀ x ∈ (T.drop (64 * q)).take 64, 0 ≤ x ∧ x < 256 := fun x hx => HTB.out x (List.mem_of_mem_drop (List.mem_of_mem_take hx))
      have kB : ∀ w', Below wr.heap.size wr w' → _ := fun w' hw' => block_calls p (p + 1) (p + 1 + 1) (p + 1 + 1 + 1) g6 3 3 3 3 c6 8 c7 (some ⟨g7, 0, none⟩) (runB H32 T q) hok gs cs A2 c2 ((T.drop (64 * q)).take 64) hbl hc64 hby w' (hS.rows.below hw') (hS.st.below hw') ((hS.all.take_ 64 hr64).below hw')
      have hdr := hS.all.drop_ (c := c2) 64 hr64 hn.2.1
      rw [List.drop_drop, show 64 * q + 64 = 64 * (q + 1) by omega] at hdr
      have hbn := hS.box.lt
      have w64 : wrap64 64 = 64 := by unfold wrap64; omega
      have HS := Lib.hid hS
      have HDR := Lib.hid hdr
      have HNN := Lib.hid hn
      have HOK := Lib.hid hok
      clear hS hdr hn hok hbl hby
      go_wp2
      refine calm_ ?_
      refine start_ (n := 9) (S := fun w' => Below wr.heap.size wr w') (ds := [7]) #[false, false, false, false, false, false, false, false, false] (by kernel_rfl) rfl rfl ((Below.refl _ wr).drew) (fun hHeld => ?_)
      refine pure_ (i := 1) (N := some 23) (v := ?_) (a' := ?_) #[false, true, false, false, false, false, false, false, false] rfl rfl (by kernel_rfl) (fun _ _ _ h => h) (Or.inl ⟨by rfl, ?_⟩) ?_ ?_
      rotate_left
      · intro w'
        go_simp
        with_reducible rfl
      rotate_left
      · simp only [Act.put, List.setIfInBounds_toArray, List.set_cons_zero, List.set_cons_succ, i64_w, i32_w]
        rfl
      refine pure_ (i := 2) (N := some 24) (v := ?_) (a' := ?_) #[false, true, true, false, false, false, false, false, false] rfl rfl (by kernel_rfl) (fun _ _ _ h => h) (Or.inl ⟨by rfl, ?_⟩) ?_ ?_
      rotate_left
      · intro w'
        go_simp
        with_reducible rfl
      rotate_left
      · simp only [Act.put, List.setIfInBounds_toArray, List.set_cons_zero, List.set_cons_succ, i64_w, i32_w]
        rfl
      refine pure_ (i := 3) (N := some 25) (v := ?_) (a' := ?_) #[false, true, true, true, false, false, false, false, false] rfl rfl (by kernel_rfl) (fun _ _ _ h => h) (Or.inl ⟨by rfl, ?_⟩) ?_ ?_
      rotate_left
      · intro w'
        go_simp
        with_reducible rfl
      rotate_left
      · simp only [Act.put, List.setIfInBounds_toArray, List.set_cons_zero, List.set_cons_succ, i64_w, i32_w]
        rfl
      refine take_ (i := 0) (N := some 22) (v := ?_) (a' := ?_) #[true, true, true, true, false, false, false, false, false] rfl rfl (by kernel_rfl) (fun _ _ _ h => h) (Or.inl ⟨by rfl, ?_⟩) hHeld ?_ ?_
      rotate_left
      · intro w' s0
        have kc := bcell s0
        go_simp
        with_reducible rfl
      rotate_left
      · simp only [Act.put, List.setIfInBounds_toArray, List.set_cons_zero, List.set_cons_succ, i64_w, i32_w]
        rfl
      refine take_ (i := 4) (N := some 26) (v := ?_) (a' := ?_) #[true, true, true, true, true, false, false, false, false] rfl rfl (by kernel_rfl) (fun _ _ _ h => h) (Or.inl ⟨by rfl, ?_⟩) hHeld ?_ ?_
      rotate_left
      · intro w' s0
        have kc := bcell s0
        go_simp
        with_reducible rfl
      rotate_left
      · simp only [Act.put, List.setIfInBounds_toArray, List.set_cons_zero, List.set_cons_succ, i64_w, i32_w]
        rfl
      refine pure_ (i := 5) (N := some 27) (v := ?_) (a' := ?_) #[true, true, true, true, true, true, false, false, false] rfl rfl (by kernel_rfl) (fun _ _ _ h => h) (Or.inl ⟨by rfl, ?_⟩) ?_ ?_
      rotate_left
      · intro w'
        go_simp
        with_reducible rfl
      rotate_left
      · simp only [Act.put, List.setIfInBounds_toArray, List.set_cons_zero, List.set_cons_succ, i64_w, i32_w]
        rfl
      refine pure_ (i := 6) (N := some 28) (v := ?_) (a' := ?_) #[true, true, true, true, true, true, true, false, false] rfl rfl (by kernel_rfl) (fun _ _ _ h => h) (Or.inl ⟨by rfl, ?_⟩) ?_ ?_
      rotate_left
      · intro w'
        go_simp
        with_reducible rfl
      rotate_left
      · simp only [Act.put, List.setIfInBounds_toArray, List.set_cons_zero, List.set_cons_succ, i64_w, i32_w]
        rfl
      refine last_ (i := 7) (N := some 29) #[true, true, true, true, true, true, true, true, false] rfl rfl (by kernel_rfl) (by decide) (fun K hK => ?_)
      refine goes_ Tryd.func139 (by kernel_rfl) rfl #[.agg #[.int .i64 32, .int .i64 64, .slice (some ⟨p, 0, none⟩) 3 3, .slice (some ⟨p + 1, 0, none⟩) 3 3, .slice (some ⟨p + 1 + 1, 0, none⟩) 3 3, .slice (some ⟨p + 1 + 1 + 1, 0, none⟩) 3 3, .slice (some ⟨g6, 0, none⟩) 64 c6, .slice (some ⟨g7, 0, none⟩) 8 c7], .slice (some ⟨gs, 0, none⟩) 8 cs, .slice A2 64 c2] (by rfl) rfl rfl (by simp only [List.map_toArray, List.map_cons, List.map_nil]; rfl) ?_
      with_reducible refine (kB _ hHeld).mono ?_
      rintro e y1 ⟨gz, cz, rfl, hown_y1, hb_y1⟩
      refine ⟨_, rfl, ?_⟩
      have hq_y1 := hHeld.trans (hb_y1.mono hHeld.size)
      have HOY := Lib.hid hown_y1
      clear hown_y1
      refine hK.out _ _ ?_
      clear hK K
      refine norm_ (a' := ?_) ?_ ?_
      rotate_left
      · show Act.put _ (some 29) _ = _
        simp only [Act.put, List.setIfInBounds_toArray, List.set_cons_zero, List.set_cons_succ, i64_w, i32_w]
        rfl
      refine pure_ (i := 8) (N := some 6) (v := ?_) (a' := ?_) #[true, true, true, true, true, true, true, true, true] rfl rfl (by kernel_rfl) (fun _ _ _ h => h) (Or.inl ⟨by rfl, ?_⟩) ?_ ?_
      rotate_left
      · intro w'
        go_simp
        with_reducible rfl
      rotate_left
      · simp only [Act.put, List.setIfInBounds_toArray, List.set_cons_zero, List.set_cons_succ, i64_w, i32_w]
        rfl
      refine done_ (by kernel_rfl) ?_
      simp only [calmly]
      have q0y := (HS.out.box.below hq_y1 hbn).cells.1
      go_wp2
      have hq := HS.out.below hq_y1
      have ho := HOY.out
      unfold OwnU at ho
      rw [(blockN_ok _ _ HOK.out).1] at ho
      refine ⟨⟨q + 1, rest - 64, c2 - 64, gz, cz, _, rfl, rfl, ⟨hq.box, hq.rows, HDR.out.below hq_y1, own_reads' ho, hq.b, ⟨?_, ?_, ?_⟩⟩⟩, ?_⟩
      · have := HNN.out; omega
      · have := HNN.out; omega
      · have := HNN.out; omega
      · simp only []; omega
    · have hd : decide ((0 : Int) < (rest : Int)) = false := decide_eq_false (by omega)
      have hT64 : 64 * q = T.length := by have := hS.n; omega
      have hqd : q = T.length / 64 := by omega
      obtain ⟨st, hst⟩ : ∃ st, st = runB H32 T q := ⟨_, rfl⟩
      have hsok := runB_ok H32 T H32_ok q
      rw [← hst] at hsok
      have hst' := hS.st
      rw [← hst] at hst'
      have hfin : ((st.take 8).map b4).flatten = shaN d := by
        rw [List.take_of_length_le (Nat.le_of_eq hsok.1), hst, hqd]
        have := HT.out
        rw [this]; rfl
      have HFIN := Lib.hid hfin
      have HSOK := Lib.hid hsok
      have HBX := Lib.hid hS.box
      have HB := Lib.hid hS.b
      have HST := Lib.hid hst'
      clear hfin hsok hS hst' hst hqd hT64
      go_wp2
      clear q0 q1 q2 q3 q4 q5 q6 q7
      have hnw : n0 < wr.heap.size := HBX.out.lt
      obtain ⟨wB, rfl⟩ : ∃ wB : World, wB = wr := ⟨_, rfl⟩
      go_loopw [7, 8] (fun v7 v8 w3 => ∃ (i : Nat), v8 = .int .i64 i ∧ i ≤ 8 ∧ OwnB w3 wB.heap.size v7 (((st.take i).map b4).flatten) ∧ Below wB.heap.size wB w3) (fun _ v8 _ => 8 - (intOf v8).toNat)
      case atStart => exact ⟨0, rfl, by omega, own_nil _ _ _ _, Below.refl _ _⟩
      case round =>
        obtain ⟨i, rfl, hi, hown, hbel⟩ := hrel
        by_cases hlt : i < 8
        · have hd : decide ((i : Int) < 8) = true := decide_eq_true (by omega)
          have hI1 : (i : Int) < 8 := by omega
          have hI2 : (i : Int).toNat = i := Int.toNat_natCast _
          obtain ⟨q0, q1, q2, q3, q4, q5, q6, q7⟩ := (HBX.out.below hbel hnw).cells
          obtain ⟨ad, had, p2⟩ := (HST.out.below hbel).at_ (i : Int) (by omega) (by omega)
          cases had
          rw [hI2, add_plain] at p2
          have hrd : rd (natsI st) (i : Int) = ((st.getD i 0 : Nat) : Int) := by unfold rd; rw [hI2, natsI_getD]
          rw [hrd] at p2
          obtain ⟨X, hX⟩ : ∃ X, X = st.getD i 0 := ⟨_, rfl⟩
          rw [← hX] at p2
          have hXb : X < 4294967296 := by
            rw [hX, List.getD_eq_getElem?_getD]
            cases h : st[i]? with
            | none => simp
            | some y => exact HSOK.out.2 y (List.mem_of_getElem? h)
          have hsn : ((st.take (i + 1)).map b4).flatten = ((st.take i).map b4).flatten ++ b4 X := by
            rw [take_snocD st i (by rw [HSOK.out.1]; exact hlt), ← hX, List.map_append, List.flatten_append]; simp
          have hxl : (((st.take i).map b4).flatten).length ≤ 32 := by rw [flat4, List.length_take]; omega
          have km : ∀ W : World, (Instr.makeSlice 47 (.int .i64 4) (.int .i64 4)).run Tryd.prog W = .ok (.slice (some ⟨W.heap.size, 0, none⟩) 4 4) (W.alloc (.cells (madeCells #[.int .u8 0] 4) 5)) := print_make (P := Tryd.prog) 47 5 .u8 1 Tryd.underlying47 inf5 (by decide) 4 (by decide)
          have w4 : Int.tdiv 32 8 = 4 := by decide
          have w4' : wrap64 4 = 4 := by unfold wrap64; omega
          have w3' : wrap64 3 = 3 := by unfold wrap64; omega
          have hnw2 : n0 < wr.heap.size := Nat.lt_of_lt_of_le hnw hbel.size
          have hgz : gs < wr.heap.size := World.block_lt_of_cell? wr ⟨gs, i, none⟩ p2
          generalize ((st.take i).map b4).flatten = xs at *
          have HOW := Lib.hid hown
          have HBL := Lib.hid hbel
          have HSN := Lib.hid hsn
          clear hown hbel hsn hX hrd
          go_wp2
          obtain ⟨mt, hmt⟩ : ∃ mt, wr.heap.size = mt := ⟨_, rfl⟩
          rw [hmt]
          refine at_world (fun W0 => OwnB W0 wB.heap.size u7 xs ∧ W0.ownsRow wB.heap.size 5 1 (.slice (some ⟨mt, 0, none⟩) 4 4) 4 (nums .u8 (low4 X 0)) ∧ Below wB.heap.size wB W0 ∧ (∀ g, u7.ownBlock = some g → g ≠ mt)) ⟨?_, ?_, ?_, ?_⟩ ?_
          · exact pw_own_below HOW.out ((Below.refl _ _).alloc (Nat.le_refl _) _)
          · have := own_made wr wB.heap.size 5 .u8 4 HBL.out.size (by decide)
            rw [hmt] at this
            rw [low4_0]; exact this
          · exact HBL.out.alloc HBL.out.size _
          · intro g hg e; have := (HOW.out.lt g hg).2; omega
          have hmb : wB.heap.size ≤ mt := by rw [← hmt]; exact HBL.out.size
          have HMB := Lib.hid hmb
          clear q0 q1 q2 q3 q4 q5 q6 q7 p2 hgz km hmt HOW HBL hd hmb hnw2
          rintro W3 ⟨hoA, hoT, hB3, hne⟩
          have HOA := Lib.hid hoA
          have HOT := Lib.hid hoT
          have HB3 := Lib.hid hB3
          have HNE := Lib.hid hne
          clear hoA hoT hB3 hne
          go_loopw [10, 11] (fun v10 v11 wr => ∃ (k N : Nat), v11 = .int .i64 (3 - (k : Int)) ∧ k ≤ 4 ∧ v10 = .int .u64 N ∧ Hid (N = X / 256 ^ k) ∧ OwnB wr wB.heap.size u7 xs ∧ wr.ownsRow wB.heap.size 5 1 (.slice (some ⟨mt, 0, none⟩) 4 4) 4 (nums .u8 (low4 X k)) ∧ Below wB.heap.size wB wr) (fun _ v11 _ => (intOf v11 + 1).toNat)
          case atStart => exact ⟨0, X, rfl, by omega, rfl, Lib.hid (by simp), HOA.out, HOT.out, HB3.out⟩
          case round =>
            clear HOA HOT HB3
            obtain ⟨k, N, rfl, hk, rfl, HNN, hoA, hoT, hB⟩ := hrel
            have hNM : N ≤ X := by rw [HNN.out]; exact Nat.div_le_self _ _
            by_cases hlt2 : k < 4
            · have hd : decide ((0 : Int) ≤ 3 - (k : Int)) = true := decide_eq_true (by omega)
              have h0 : (0 : Int) ≤ 3 - (k : Int) := by omega
              have h0' : (k : Int) ≤ 3 := by omega
              have h1 : (3 : Int) - (k : Int) < 4 := by omega
              have h2 : ((3 : Int) - (k : Int)).toNat = 3 - k := by omega
              have hNb : (N : Int) < 9223372036854775 := by omega
              have hcl := own_at hoT ((3 : Int) - (k : Int)) h0 h1
              rw [h2] at hcl
              have p1 := hcl.1
              have p2 := hcl.2
              have hst := own_store hoT ((3 : Int) - (k : Int)) ((N : Int) % 256)
              rw [h2] at hst
              have hset := low4_set X k hlt2
              rw [← HNN.out] at hset
              have eN : ((N % 256 : Nat) : Int) = (N : Int) % 256 := by omega
              rw [eN] at hset
              rw [hset] at hst
              have hoA2 := own_blk (w' := wr.setCell ⟨mt, 3 - k, none⟩ (.int .u8 ((N : Int) % 256))) hoA (fun g hg => Below.heap_setCell _ _ _ _ (HNE.out g hg))
              have hB2 := hB.setCell (p := ⟨mt, 3 - k, none⟩) HMB.out (.int .u8 ((N : Int) % 256))
              have HST := Lib.hid hst.1
              have HOA := Lib.hid hoA2
              have HB2 := Lib.hid hB2
              clear hst hoA2 hB2 hoA hoT hB hset hcl
              go_wp2
              exact ⟨⟨k + 1, N / 256, by simp; omega, by omega, rfl, Lib.hid (by rw [HNN.out, Nat.div_div_eq_div_mul, Nat.pow_succ]), HOA.out, HST.out, HB2.out⟩, by simp only [intOf]; omega⟩
            · have hd : decide ((0 : Int) ≤ 3 - (k : Int)) = false := decide_eq_false (by omega)
              have hk4 : k = 4 := by omega
              subst hk4
              have hrd := own_reads' hoT
              rw [low4_4] at hrd
              have hl4 : (xs.length + 4) * 1 ≤ 140737488355328 := by omega
              have hns := hB.size
              clear hoT
              go_wp2_with (at_builtin; go_loud (refine print_append_row (w0 := wB) wB.heap.size rfl _ _ 47 5 .u8 1 rfl Tryd.underlying47 inf5 (by decide) u7 xs (b4 X) (some ⟨mt, 0, none⟩) 4 4 rfl rfl hoA hrd hB hns hl4 ?_; intro v6 w6 hown6 hB6 _ _; have HO6 := Lib.hid hown6; have HB6 := Lib.hid hB6; clear hown6 hB6))
              have ho := HO6.out
              rw [← HSN.out] at ho
              exact ⟨⟨i + 1, rfl, by omega, ho, HB6.out⟩, by simp only [intOf]; omega⟩
        · have hd : decide ((i : Int) < 8) = false := decide_eq_false (by omega)
          have hi8 : i = 8 := by omega
          subst hi8
          rw [HFIN.out] at hown
          go_wp2
          go_ret
          exact ⟨_, rfl, own_weaken hown (by have := HN.out; omega), by rw [HN.out]; exact HB.out.trans (hbel.mono (Nat.le_of_lt hnw))⟩
end Go.Proofs.YtoeibcdnhglobaaDoor.P
