/- pantileref01: block: the walk. Printed by wip/tools/genblock.py. -/
import Derived.Test.YtoeibcdnhglobaaDoorE5
namespace Go.Proofs.YtoeibcdnhglobaaDoor.P
set_option linter.unusedVariables false
set_option linter.unusedSimpArgs false
open Go.RowKit Go.Shelf Go.Proofs.YtoeibcdnhglobaaDoorW.PrintWords Go.Proofs.YtoeibcdnhglobaaDoorW.PrintLast Go.Proofs.YtoeibcdnhglobaaDoorW.PrintMore
open Go.Proofs.YtoeibcdnhglobaaDoor.Pure

theorem inf135 : (Tryd.prog.info? 135).map (fun i => (i.zero, i.size, i.bytes)) = some (some (.int .u64 0), 1, 8) := by kernel_rfl
/-- Words as whole numbers. -/
def natsI (l : List Nat) : List Int := l.map fun x : Nat => (x : Int)
theorem natsI_length (l : List Nat) : (natsI l).length = l.length := by simp [natsI]
theorem natsI_append (a b : List Nat) : natsI (a ++ b) = natsI a ++ natsI b := by simp [natsI]
theorem natsI_getD (l : List Nat) (i : Nat) : (natsI l).getD i 0 = ((l.getD i 0 : Nat) : Int) := by
  unfold natsI
  rw [List.getD_eq_getElem?_getD, List.getElem?_map, List.getD_eq_getElem?_getD]
  cases l[i]? <;> rfl
theorem natsI_set (l : List Nat) (i x : Nat) : (natsI l).set i (x : Int) = natsI (l.set i x) := by simp [natsI, List.map_set]
/-- A row of words of 64 bits of the call's own. -/
abbrev OwnU (w : World) (base : Nat) (v : Value) (l : List Nat) : Prop := w.ownsRow base 135 1 v l.length (nums .u64 (natsI l))
theorem OwnU.cell {w : World} {base g c : Nat} {l : List Nat} {n : Nat} (h : w.ownsRow base 135 1 (.slice (some ⟨g, 0, none⟩) n c) n (nums .u64 (natsI l))) (i : Nat) (hi : i < n) : w.cell? ⟨g, i, none⟩ = some (.int .u64 (l.getD i 0 : Nat)) ∧ w.frozen? ⟨g, i, none⟩ = false := by
  have := own_at h (i : Int) (by omega) (by omega)
  rw [Int.toNat_natCast] at this
  refine ⟨?_, this.2⟩
  rw [this.1]
  unfold rd
  rw [Int.toNat_natCast, natsI_getD]
theorem sV_snoc_low (w16 : List Nat) (t : Nat) (h : t < 16) (hw : w16.length = 16) : sV w16 (t + 1) = sV w16 t ++ [w16.getD t 0] := by
  unfold sV
  rw [if_pos (by omega), if_pos (by omega), List.take_succ_eq_append_getElem (by omega)]
  simp [List.getD_eq_getElem?_getD, show t < w16.length by omega]
theorem sV_snoc_high (w16 : List Nat) (t : Nat) (h : 16 ≤ t) (hw : w16.length = 16) : sV w16 (t + 1) = sV w16 t ++ [nextW (sV w16 t)] := by
  rw [sV_ge _ _ hw h, sV_ge _ _ hw (by omega), show t + 1 - 16 = (t - 16) + 1 by omega]
  rfl
theorem sV_length (w16 : List Nat) (t : Nat) (hw : w16.length = 16) : (sV w16 t).length = t := by
  unfold sV
  split
  · rw [List.length_take]; omega
  · rw [sch_length]; omega
theorem sV_lt2 (w16 : List Nat) (t : Nat) (hw : w16.length = 16) (h : ∀ x ∈ w16, x < 4294967296) (i : Nat) : (sV w16 t).getD i 0 < 4294967296 := by
  rw [List.getD_eq_getElem?_getD]
  cases hh : (sV w16 t)[i]? with
  | none => simp
  | some y =>
    have hm := List.mem_of_getElem? hh
    unfold sV at hm
    split at hm
    · exact h y (List.mem_of_mem_take hm)
    · exact sch_lt _ h _ y hm
theorem K32_lt (t : Nat) : K32.getD t 0 < 4294967296 := by
  rw [List.getD_eq_getElem?_getD]
  cases hh : K32[t]? with
  | none => simp
  | some y =>
    have : ∀ x ∈ K32, x < 4294967296 := by decide
    exact this y (List.mem_of_getElem? hh)
theorem sch_getD_lt (w : List Nat) (h : ∀ x ∈ w, x < 4294967296) (n i : Nat) : (sch w n).getD i 0 < 4294967296 := by
  rw [List.getD_eq_getElem?_getD]
  cases hh : (sch w n)[i]? with
  | none => simp
  | some y => exact sch_lt w h n y (List.mem_of_getElem? hh)
theorem bits_ch64 (e f g : Nat) (he : e < 4294967296) (hf : f < 4294967296) (hg : g < 4294967296) :
    bits .or .u64 (bits .and .u64 (e : Int) (f : Int)) (bits .and .u64 (bits .xor .u64 4294967295 (e : Int)) (g : Int)) = ((chN e f g : Nat) : Int) := by
  have hx : 4294967295 ^^^ e < 4294967296 := Nat.xor_lt_two_pow (n := 32) (by decide) he
  rw [show (4294967295 : Int) = ((4294967295 : Nat) : Int) from rfl, bits_xor_u64_nat _ _ (by decide) (by omega), bits_and_u64_nat _ _ (by omega) (by omega), bits_and_u64_nat _ _ (by omega) (by omega),
    bits_or_u64_nat _ _ (Nat.lt_of_lt_of_le (Nat.and_lt_two_pow (n := 32) e hf) (by decide)) (Nat.lt_of_lt_of_le (Nat.and_lt_two_pow (n := 32) (4294967295 ^^^ e) hg) (by decide))]
  rfl
theorem bits_maj64 (a b c : Nat) (ha : a < 4294967296) (hb : b < 4294967296) (hc : c < 4294967296) :
    bits .or .u64 (bits .or .u64 (bits .and .u64 (a : Int) (b : Int)) (bits .and .u64 (a : Int) (c : Int))) (bits .and .u64 (b : Int) (c : Int)) = ((majN a b c : Nat) : Int) := by
  have h1 : a &&& b < 4294967296 := Nat.and_lt_two_pow (n := 32) a hb
  have h2 : a &&& c < 4294967296 := Nat.and_lt_two_pow (n := 32) a hc
  have h3 : b &&& c < 4294967296 := Nat.and_lt_two_pow (n := 32) b hc
  have h4 : (a &&& b) ||| (a &&& c) < 4294967296 := Nat.or_lt_two_pow (n := 32) h1 h2
  rw [bits_and_u64_nat _ _ (by omega) (by omega), bits_and_u64_nat _ _ (by omega) (by omega), bits_and_u64_nat _ _ (by omega) (by omega), bits_or_u64_nat _ _ (by omega) (by omega), bits_or_u64_nat _ _ (by omega) (by omega)]
  rfl
/-- The rows of the document's words lie in memory. -/
structure WRows (w : World) (g2 g3 g4 g5 g6 : Nat) : Prop where
  r2 : Row3 w g2 2 13 22
  r3 : Row3 w g3 6 11 25
  r4 : Row3 w g4 7 18 3
  r5 : Row3 w g5 17 19 10
  k : ∀ j, j < 64 → w.cell? ⟨g6, j, none⟩ = some (.int .u64 (K32.getD j 0 : Nat))
theorem WRows.below {w w' : World} {g2 g3 g4 g5 g6 : Nat} (h : WRows w g2 g3 g4 g5 g6) (hb : Below w.heap.size w w') : WRows w' g2 g3 g4 g5 g6 :=
  ⟨h.r2.below hb h.r2.lt, h.r3.below hb h.r3.lt, h.r4.below hb h.r4.lt, h.r5.below hb h.r5.lt, fun j hj => pw_cell_below hb (h.k j hj)⟩
set_option maxRecDepth 100000 in
set_option maxHeartbeats 16000000 in
theorem block_calls (g2 g3 g4 g5 g6 c2 c3 c4 c5 c6 n7 c7 : Nat) (A7 : Option Addr) (st0 : List Nat) (hst : st0.length = 8 ∧ ∀ x ∈ st0, x < 4294967296) (gs cs : Nat) (Ab : Option Addr) (cb : Nat) (l : List Int) (hl : l.length = 64) (hcb : 64 ≤ cb) (hb : ∀ x ∈ l, 0 ≤ x ∧ x < 256) (w : World)
    (hW : WRows w g2 g3 g4 g5 g6) (hs : ReadsInt w .u64 (some ⟨gs, 0, none⟩) 8 (natsI st0)) (hr : ReadsInt w .u8 Ab 64 l) :
    Calls Tryd.prog 139 #[.agg #[.int .i64 32, .int .i64 64, .slice (some ⟨g2, 0, none⟩) 3 c2, .slice (some ⟨g3, 0, none⟩) 3 c3, .slice (some ⟨g4, 0, none⟩) 3 c4, .slice (some ⟨g5, 0, none⟩) 3 c5, .slice (some ⟨g6, 0, none⟩) 64 c6, .slice A7 n7 c7], .slice (some ⟨gs, 0, none⟩) 8 cs, .slice Ab 64 cb] w fun e w' => ∃ g c, e = .returned (.slice (some ⟨g, 0, none⟩) 8 c) ∧ OwnU w' w.heap.size (.slice (some ⟨g, 0, none⟩) 8 c) (blockN st0 (words l)) ∧ Below w.heap.size w w' := by
  obtain ⟨n0, hn0⟩ : ∃ n0, w.heap.size = n0 := ⟨_, rfl⟩
  have hwl : (words l).length = 16 := by simp [words]
  have hwlt := words_lt l hb
  have HN := Lib.hid hn0
  have HST := Lib.hid hst
  have HL := Lib.hid hl
  have HBY := Lib.hid hb
  have HW := Lib.hid hW
  have HS := Lib.hid hs
  have HR := Lib.hid hr
  have HWL := Lib.hid hwl
  have HWLT := Lib.hid hwlt
  have HCB := Lib.hid hcb
  clear hst hl hb hW hs hr hwl hwlt hcb
  go_enter Tryd.func139, Tryd.ntmps139
  go_wp2
  refine at_world (fun W0 => WBox W0 n0 (some ⟨g2, 0, none⟩) (some ⟨g3, 0, none⟩) (some ⟨g4, 0, none⟩) (some ⟨g5, 0, none⟩) (some ⟨g6, 0, none⟩) A7 c2 c3 c4 c5 c6 c7 64 n7 ∧ Below n0 w W0) ⟨hn0 ▸ WBox.new w, (Below.refl n0 w).alloc (Nat.le_of_eq hn0.symm) _⟩ ?_
  clear hn0
  rintro W0 ⟨hbx0, hb0⟩
  obtain ⟨q0, q1, _⟩ := hbx0.cells
  have HBX0 := Lib.hid hbx0
  have HB0 := Lib.hid hb0
  clear hbx0 hb0
  go_wp2
  clear q0 q1
  go_loopw [8, 9] (fun v8 v9 wr => ∃ (t : Nat), v9 = .int .i64 t ∧ t ≤ 64 ∧ wr.ownsRow n0 135 1 v8 t (nums .u64 (natsI (sV (words l) t))) ∧ Below n0 w wr ∧ WBox wr n0 (some ⟨g2, 0, none⟩) (some ⟨g3, 0, none⟩) (some ⟨g4, 0, none⟩) (some ⟨g5, 0, none⟩) (some ⟨g6, 0, none⟩) A7 c2 c3 c4 c5 c6 c7 64 n7) (fun _ v9 _ => 64 - (intOf v9).toNat)
  case atStart => exact ⟨0, rfl, by omega, by simpa [sV, natsI, nums] using own_nil W0 n0 135 1, HB0.out, HBX0.out⟩
  case round =>
    obtain ⟨t, rfl, ht, hown, hbel, hbx⟩ := hrel
    obtain ⟨q0, q1, q2, q3, q4, q5, q6, q7⟩ := hbx.cells
    have hn0w : n0 ≤ wr.heap.size := by have := hbel.size; have := HN.out; omega
    by_cases hlt : t < 64
    · have hd : decide ((t : Int) < 64) = true := decide_eq_true (by omega)
      by_cases h16 : t < 16
      · have hd2 : decide ((t : Int) < 16) = true := decide_eq_true (by omega)
        obtain ⟨i5, hi5, _, hsz5, _⟩ := info_parts inf5
        obtain ⟨A', hcut, hrdA, _⟩ := print_mid_int (P := Tryd.prog) (k := .u8) 47 5 Tryd.underlying47 hi5 hsz5 Ab cb l ((t : Int) * 4) ((t : Int) * 4 + 4) (by omega) (by omega) (by have := HL.out; omega) (by have := HL.out; have := HCB.out; omega)
        obtain ⟨D, hD⟩ : ∃ D, D = (l.take ((t : Int) * 4 + 4).toNat).drop ((t : Int) * 4).toNat := ⟨_, rfl⟩
        rw [← hD] at hcut hrdA
        rw [HL.out] at hcut hrdA
        have hD2 : D = (l.drop (4 * t)).take 4 := by
          rw [hD, show ((t : Int) * 4 + 4).toNat = 4 * t + 4 by omega, show ((t : Int) * 4).toNat = 4 * t by omega, List.drop_take]
          congr 1; omega
        have hDl : D.length = 4 := by rw [hD2, List.length_take, List.length_drop, HL.out]; omega
        have hDb : ∀ x ∈ D, 0 ≤ x ∧ x < 256 := fun x hx => HBY.out x (List.mem_of_mem_drop (List.mem_of_mem_take (hD2 ▸ hx)))
        have hrw := hrdA wr (HR.out.below (HN.out ▸ hbel))
        have kW := word_calls A' (cb - t * 4) D wr hrw (by omega) hDb
        have hbe : be D = (((words l).getD t 0 : Nat) : Int) := by
          have h1 := (be_bd D hDb).1
          have h2 : (words l).getD t 0 = (be D).toNat := by rw [hD2]; simp [words, List.getD_eq_getElem?_getD, h16]
          rw [h2]; omega
        rw [hbe] at kW
        have hsn := sV_snoc_low (words l) t h16 HWL.out
        obtain ⟨X, hX⟩ : ∃ X, X = (words l).getD t 0 := ⟨_, rfl⟩
        rw [← hX] at kW hsn
        have hlen : (natsI (sV (words l) t)).length = t := by rw [natsI_length, sV_length _ _ HWL.out]
        have hown' : wr.ownsRow n0 135 1 u8 (natsI (sV (words l) t)).length (nums .u64 (natsI (sV (words l) t))) := by rw [hlen]; exact hown
        have hl8 : ((natsI (sV (words l) t)).length + 1) * 8 ≤ 140737488355328 := by rw [hlen]; omega
        have HSN := Lib.hid hsn
        have HBX := Lib.hid hbx
        have hne := own_ne hown hbx (by decide)
        have HNE := Lib.hid hne
        obtain ⟨xs, hxs⟩ : ∃ xs, xs = natsI (sV (words l) t) := ⟨_, rfl⟩
        rw [← hxs] at hown' hl8 hlen
        have HLEN := Lib.hid hlen
        have HXS := Lib.hid hxs
        clear hne hxs
        have hcap : cb - ((t : Int) * 4).toNat = cb - ((t : Int) * 4).toNat := rfl
        clear hD hD2 hDl hDb hrw hbe hsn hlen hX hown hrdA hi5 hsz5 hcap hbx
        go_wp2_with (first
          | (go_at_call 153; with_reducible refine kW.mono ?_; rintro e w9 ⟨rfl, hw9⟩; rw [hw9]; clear hw9 w9)
          | (at_builtin; go_loud (refine print_append_num (w0 := w) n0 rfl _ _ 142 135 .u64 8 rfl Tryd.underlying142 inf135 (by decide) u8 xs (X : Int) rfl rfl hown' hbel hn0w hl8 ?_; intro v6 w6 hown6 hB6 hg6 _; have HG6 := Lib.hid hg6; clear hg6)))
        refine ⟨⟨t + 1, rfl, by omega, ?_, hB6, ?_⟩, by simp only [intOf]; omega⟩
        · have e1 : natsI (sV (words l) (t + 1)) = xs ++ [(X : Int)] := by rw [HSN.out, natsI_append, HXS.out]; rfl
          have e2 : (xs ++ [(X : Int)]).length = t + 1 := by rw [List.length_append, HLEN.out]; rfl
          rw [e1, ← e2]; exact hown6
        · exact (HG6.out.block n0 HBX.out.lt (fun e => HNE.out (by rw [← e]))).trans HBX.out
      · have hd2 : decide ((t : Int) < 16) = false := decide_eq_false (by omega)
        obtain ⟨g8, c8, rfl, _⟩ := own_form2 hown (by omega)
        have hne := own_ne hown hbx (by decide)
        have hc := OwnU.cell hown
        have hg8 := (hown.lt g8 rfl).2
        have v2 := (hc (t - 2) (by omega)).1
        have v7 := (hc (t - 7) (by omega)).1
        have v15 := (hc (t - 15) (by omega)).1
        have v16 := (hc (t - 16) (by omega)).1
        have hslt := sV_lt2 (words l) t HWL.out HWLT.out
        have hsn := sV_snoc_high (words l) t (by omega) HWL.out
        have hlen := sV_length (words l) t HWL.out
        obtain ⟨row, hrow⟩ : ∃ row, row = sV (words l) t := ⟨_, rfl⟩
        rw [← hrow] at hown hc v2 v7 v15 v16 hslt hsn hlen
        obtain ⟨X2, hX2⟩ : ∃ X, X = row.getD (t - 2) 0 := ⟨_, rfl⟩
        obtain ⟨X7, hX7⟩ : ∃ X, X = row.getD (t - 7) 0 := ⟨_, rfl⟩
        obtain ⟨X15, hX15⟩ : ∃ X, X = row.getD (t - 15) 0 := ⟨_, rfl⟩
        obtain ⟨X16, hX16⟩ : ∃ X, X = row.getD (t - 16) 0 := ⟨_, rfl⟩
        have b2 : X2 < 4294967296 := hX2 ▸ hslt _
        have b7 : X7 < 4294967296 := hX7 ▸ hslt _
        have b15 : X15 < 4294967296 := hX15 ▸ hslt _
        have b16 : X16 < 4294967296 := hX16 ▸ hslt _
        rw [← hX2] at v2
        rw [← hX7] at v7
        rw [← hX15] at v15
        rw [← hX16] at v16
        have hWr := HW.out.below (HN.out.symm ▸ hbel)
        have l1 := sigS_lt 17 19 10 X2 (by decide) (by decide) b2
        have l0 := sigS_lt 7 18 3 X15 (by decide) (by decide) b15
        have kS1 : ∀ w', Below wr.heap.size wr w' → Calls Tryd.prog 155 #[.agg #[.int .i64 32, .int .i64 64, .slice (some ⟨g2, 0, none⟩) 3 c2, .slice (some ⟨g3, 0, none⟩) 3 c3, .slice (some ⟨g4, 0, none⟩) 3 c4, .slice (some ⟨g5, 0, none⟩) 3 c5, .slice (some ⟨g6, 0, none⟩) 64 c6, .slice A7 n7 c7], .int .u64 X2, .slice (some ⟨g5, 0, none⟩) 3 c5, .bool true] w' fun e w'' => e = .returned (.int .u64 (sigS 17 19 10 X2 : Nat)) ∧ Below w'.heap.size w' w'' :=
          fun w' hC => three_t _ _ _ _ _ _ c2 c3 c4 c5 c6 c7 64 n7 X2 b2 g5 17 19 10 c5 (by decide) (by decide) (by decide) w' (hWr.r5.below hC hWr.r5.lt)
        have kS0 : ∀ w', Below wr.heap.size wr w' → Calls Tryd.prog 155 #[.agg #[.int .i64 32, .int .i64 64, .slice (some ⟨g2, 0, none⟩) 3 c2, .slice (some ⟨g3, 0, none⟩) 3 c3, .slice (some ⟨g4, 0, none⟩) 3 c4, .slice (some ⟨g5, 0, none⟩) 3 c5, .slice (some ⟨g6, 0, none⟩) 64 c6, .slice A7 n7 c7], .int .u64 X15, .slice (some ⟨g4, 0, none⟩) 3 c4, .bool true] w' fun e w'' => e = .returned (.int .u64 (sigS 7 18 3 X15 : Nat)) ∧ Below w'.heap.size w' w'' :=
          fun w' hC => three_t _ _ _ _ _ _ c2 c3 c4 c5 c6 c7 64 n7 X15 b15 g4 7 18 3 c4 (by decide) (by decide) (by decide) w' (hWr.r4.below hC hWr.r4.lt)
        obtain ⟨S1, hS1⟩ : ∃ S, S = sigS 17 19 10 X2 := ⟨_, rfl⟩
        obtain ⟨S0, hS0⟩ : ∃ S, S = sigS 7 18 3 X15 := ⟨_, rfl⟩
        rw [← hS1] at kS1 l1
        rw [← hS0] at kS0 l0
        obtain ⟨P1, hP1⟩ : ∃ P, P = S1 + X7 := ⟨_, rfl⟩
        obtain ⟨P2, hP2⟩ : ∃ P, P = P1 + S0 := ⟨_, rfl⟩
        obtain ⟨P3, hP3⟩ : ∃ P, P = P2 + X16 := ⟨_, rfl⟩
        have z1 : IntKind.u64.wrap ((S1 : Int) + (X7 : Int)) = (P1 : Int) := by rw [IntKind.wrap_u64]; omega
        have z2 : IntKind.u64.wrap ((P1 : Int) + (S0 : Int)) = (P2 : Int) := by rw [IntKind.wrap_u64]; omega
        have z3 : IntKind.u64.wrap ((P2 : Int) + (X16 : Int)) = (P3 : Int) := by rw [IntKind.wrap_u64]; omega
        have kC : ∀ w', Calls Tryd.prog 154 #[.agg #[.int .i64 32, .int .i64 64, .slice (some ⟨g2, 0, none⟩) 3 c2, .slice (some ⟨g3, 0, none⟩) 3 c3, .slice (some ⟨g4, 0, none⟩) 3 c4, .slice (some ⟨g5, 0, none⟩) 3 c5, .slice (some ⟨g6, 0, none⟩) 64 c6, .slice A7 n7 c7], .int .u64 P3] w' fun e w'' => e = .returned (.int .u64 (P3 % 4294967296 : Nat)) ∧ Below w'.heap.size w' w'' :=
          fun w' => cut_calls _ _ _ _ _ _ c2 c3 c4 c5 c6 c7 64 n7 P3 (by omega) w'
        have hnext : nextW row = P3 % 4294967296 := by
          unfold nextW
          rw [hlen, ← hX2, ← hX7, ← hX15, ← hX16, ← hS1, ← hS0, ← hP1, ← hP2, ← hP3]
        rw [hnext] at hsn
        obtain ⟨Z, hZ⟩ : ∃ Z, Z = P3 % 4294967296 := ⟨_, rfl⟩
        rw [← hZ] at kC hsn
        have j2 : (0 : Int) ≤ (t : Int) - 2 := by omega
        have j7 : (0 : Int) ≤ (t : Int) - 7 := by omega
        have j15 : (0 : Int) ≤ (t : Int) - 15 := by omega
        have j16 : (0 : Int) ≤ (t : Int) - 16 := by omega
        have i2 : wrap64 ((t : Int) - 2) = (t : Int) - 2 := wrap64_id (by omega) (by omega)
        have i7 : wrap64 ((t : Int) - 7) = (t : Int) - 7 := wrap64_id (by omega) (by omega)
        have i15 : wrap64 ((t : Int) - 15) = (t : Int) - 15 := wrap64_id (by omega) (by omega)
        have i16 : wrap64 ((t : Int) - 16) = (t : Int) - 16 := wrap64_id (by omega) (by omega)
        have m2 : (t : Int) - 2 < (t : Int) := by omega
        have m7 : (t : Int) - 7 < (t : Int) := by omega
        have m15 : (t : Int) - 15 < (t : Int) := by omega
        have m16 : (t : Int) - 16 < (t : Int) := by omega
        have n2 : ((t : Int) - 2).toNat = t - 2 := by omega
        have n7' : ((t : Int) - 7).toNat = t - 7 := by omega
        have n15 : ((t : Int) - 15).toNat = t - 15 := by omega
        have n16 : ((t : Int) - 16).toNat = t - 16 := by omega
        have o2 : (2 : Int) ≤ (t : Int) := by omega
        have o7 : (7 : Int) ≤ (t : Int) := by omega
        have o15 : (15 : Int) ≤ (t : Int) := by omega
        have o16 : (16 : Int) ≤ (t : Int) := by omega
        have hbx1 := hbx.lt
        have HOWN := Lib.hid hown
        have HBEL := Lib.hid hbel
        have HBX := Lib.hid hbx
        have HNE := Lib.hid hne
        have HSN := Lib.hid hsn
        have HLEN := Lib.hid hlen
        have HN0W := Lib.hid hn0w
        have HROW := Lib.hid hrow
        clear hown hbel hbx hne hsn hlen hrow hX2 hX7 hX15 hX16 hslt hc hWr hS1 hS0 hP1 hP2 hP3 hnext hZ hn0w
        go_wp2
        refine calm_ ?_
        refine start_ (n := 37) (S := fun w' => Below wr.heap.size wr w') (ds := [35]) #[false, false, false, false, false, false, false, false, false, false, false, false, false, false, false, false, false, false, false, false, false, false, false, false, false, false, false, false, false, false, false, false, false, false, false, false, false] (by kernel_rfl) rfl rfl ((Below.refl _ wr).drew) (fun hHeld => ?_)
        refine pure_ (i := 0) (N := some 43) (v := ?_) (a' := ?_) #[true, false, false, false, false, false, false, false, false, false, false, false, false, false, false, false, false, false, false, false, false, false, false, false, false, false, false, false, false, false, false, false, false, false, false, false, false] rfl rfl (by kernel_rfl) (fun _ _ _ h => h) (Or.inl ⟨by rfl, ?_⟩) ?_ ?_
        rotate_left
        · intro w'
          go_simp
          with_reducible rfl
        rotate_left
        · simp only [Act.put, List.setIfInBounds_toArray, List.set_cons_zero, List.set_cons_succ, i64_w, i32_w]
          rfl
        refine pure_ (i := 3) (N := some 46) (v := ?_) (a' := ?_) #[true, false, false, true, false, false, false, false, false, false, false, false, false, false, false, false, false, false, false, false, false, false, false, false, false, false, false, false, false, false, false, false, false, false, false, false, false] rfl rfl (by kernel_rfl) (fun _ _ _ h => h) (Or.inl ⟨by rfl, ?_⟩) ?_ ?_
        rotate_left
        · intro w'
          go_simp
          with_reducible rfl
        rotate_left
        · simp only [Act.put, List.setIfInBounds_toArray, List.set_cons_zero, List.set_cons_succ, i64_w, i32_w]
          rfl
        refine pure_ (i := 4) (N := some 47) (v := ?_) (a' := ?_) #[true, false, false, true, true, false, false, false, false, false, false, false, false, false, false, false, false, false, false, false, false, false, false, false, false, false, false, false, false, false, false, false, false, false, false, false, false] rfl rfl (by kernel_rfl) (fun _ _ _ h => h) (Or.inl ⟨by rfl, ?_⟩) ?_ ?_
        rotate_left
        · intro w'
          go_simp
          with_reducible rfl
        rotate_left
        · simp only [Act.put, List.setIfInBounds_toArray, List.set_cons_zero, List.set_cons_succ, i64_w, i32_w]
          rfl
        refine pure_ (i := 5) (N := some 48) (v := ?_) (a' := ?_) #[true, false, false, true, true, true, false, false, false, false, false, false, false, false, false, false, false, false, false, false, false, false, false, false, false, false, false, false, false, false, false, false, false, false, false, false, false] rfl rfl (by kernel_rfl) (fun _ _ _ h => h) (Or.inl ⟨by rfl, ?_⟩) ?_ ?_
        rotate_left
        · intro w'
          go_simp
          with_reducible rfl
        rotate_left
        · simp only [Act.put, List.setIfInBounds_toArray, List.set_cons_zero, List.set_cons_succ, i64_w, i32_w]
          rfl
        refine pure_ (i := 6) (N := some 49) (v := ?_) (a' := ?_) #[true, false, false, true, true, true, true, false, false, false, false, false, false, false, false, false, false, false, false, false, false, false, false, false, false, false, false, false, false, false, false, false, false, false, false, false, false] rfl rfl (by kernel_rfl) (fun _ _ _ h => h) (Or.inl ⟨by rfl, ?_⟩) ?_ ?_
        rotate_left
        · intro w'
          go_simp
          with_reducible rfl
        rotate_left
        · simp only [Act.put, List.setIfInBounds_toArray, List.set_cons_zero, List.set_cons_succ, i64_w, i32_w]
          rfl
        refine pure_ (i := 8) (N := some 51) (v := ?_) (a' := ?_) #[true, false, false, true, true, true, true, false, true, false, false, false, false, false, false, false, false, false, false, false, false, false, false, false, false, false, false, false, false, false, false, false, false, false, false, false, false] rfl rfl (by kernel_rfl) (fun _ _ _ h => h) (Or.inl ⟨by rfl, ?_⟩) ?_ ?_
        rotate_left
        · intro w'
          go_simp
          with_reducible rfl
        rotate_left
        · simp only [Act.put, List.setIfInBounds_toArray, List.set_cons_zero, List.set_cons_succ, i64_w, i32_w]
          rfl
        refine pure_ (i := 11) (N := some 54) (v := ?_) (a' := ?_) #[true, false, false, true, true, true, true, false, true, false, false, true, false, false, false, false, false, false, false, false, false, false, false, false, false, false, false, false, false, false, false, false, false, false, false, false, false] rfl rfl (by kernel_rfl) (fun _ _ _ h => h) (Or.inl ⟨by rfl, ?_⟩) ?_ ?_
        rotate_left
        · intro w'
          go_simp
          with_reducible rfl
        rotate_left
        · simp only [Act.put, List.setIfInBounds_toArray, List.set_cons_zero, List.set_cons_succ, i64_w, i32_w]
          rfl
        refine pure_ (i := 12) (N := some 55) (v := ?_) (a' := ?_) #[true, false, false, true, true, true, true, false, true, false, false, true, true, false, false, false, false, false, false, false, false, false, false, false, false, false, false, false, false, false, false, false, false, false, false, false, false] rfl rfl (by kernel_rfl) (fun _ _ _ h => h) (Or.inl ⟨by rfl, ?_⟩) ?_ ?_
        rotate_left
        · intro w'
          go_simp
          with_reducible rfl
        rotate_left
        · simp only [Act.put, List.setIfInBounds_toArray, List.set_cons_zero, List.set_cons_succ, i64_w, i32_w]
          rfl
        refine pure_ (i := 13) (N := some 56) (v := ?_) (a' := ?_) #[true, false, false, true, true, true, true, false, true, false, false, true, true, true, false, false, false, false, false, false, false, false, false, false, false, false, false, false, false, false, false, false, false, false, false, false, false] rfl rfl (by kernel_rfl) (fun _ _ _ h => h) (Or.inl ⟨by rfl, ?_⟩) ?_ ?_
        rotate_left
        · intro w'
          go_simp
          with_reducible rfl
        rotate_left
        · simp only [Act.put, List.setIfInBounds_toArray, List.set_cons_zero, List.set_cons_succ, i64_w, i32_w]
          rfl
        refine pure_ (i := 14) (N := some 57) (v := ?_) (a' := ?_) #[true, false, false, true, true, true, true, false, true, false, false, true, true, true, true, false, false, false, false, false, false, false, false, false, false, false, false, false, false, false, false, false, false, false, false, false, false] rfl rfl (by kernel_rfl) (fun _ _ _ h => h) (Or.inl ⟨by rfl, ?_⟩) ?_ ?_
        rotate_left
        · intro w'
          go_simp
          with_reducible rfl
        rotate_left
        · simp only [Act.put, List.setIfInBounds_toArray, List.set_cons_zero, List.set_cons_succ, i64_w, i32_w]
          rfl
        refine pure_ (i := 18) (N := some 61) (v := ?_) (a' := ?_) #[true, false, false, true, true, true, true, false, true, false, false, true, true, true, true, false, false, false, true, false, false, false, false, false, false, false, false, false, false, false, false, false, false, false, false, false, false] rfl rfl (by kernel_rfl) (fun _ _ _ h => h) (Or.inl ⟨by rfl, ?_⟩) ?_ ?_
        rotate_left
        · intro w'
          go_simp
          with_reducible rfl
        rotate_left
        · simp only [Act.put, List.setIfInBounds_toArray, List.set_cons_zero, List.set_cons_succ, i64_w, i32_w]
          rfl
        refine pure_ (i := 19) (N := some 62) (v := ?_) (a' := ?_) #[true, false, false, true, true, true, true, false, true, false, false, true, true, true, true, false, false, false, true, true, false, false, false, false, false, false, false, false, false, false, false, false, false, false, false, false, false] rfl rfl (by kernel_rfl) (fun _ _ _ h => h) (Or.inl ⟨by rfl, ?_⟩) ?_ ?_
        rotate_left
        · intro w'
          go_simp
          with_reducible rfl
        rotate_left
        · simp only [Act.put, List.setIfInBounds_toArray, List.set_cons_zero, List.set_cons_succ, i64_w, i32_w]
          rfl
        refine pure_ (i := 20) (N := some 63) (v := ?_) (a' := ?_) #[true, false, false, true, true, true, true, false, true, false, false, true, true, true, true, false, false, false, true, true, true, false, false, false, false, false, false, false, false, false, false, false, false, false, false, false, false] rfl rfl (by kernel_rfl) (fun _ _ _ h => h) (Or.inl ⟨by rfl, ?_⟩) ?_ ?_
        rotate_left
        · intro w'
          go_simp
          with_reducible rfl
        rotate_left
        · simp only [Act.put, List.setIfInBounds_toArray, List.set_cons_zero, List.set_cons_succ, i64_w, i32_w]
          rfl
        refine pure_ (i := 21) (N := some 64) (v := ?_) (a' := ?_) #[true, false, false, true, true, true, true, false, true, false, false, true, true, true, true, false, false, false, true, true, true, true, false, false, false, false, false, false, false, false, false, false, false, false, false, false, false] rfl rfl (by kernel_rfl) (fun _ _ _ h => h) (Or.inl ⟨by rfl, ?_⟩) ?_ ?_
        rotate_left
        · intro w'
          go_simp
          with_reducible rfl
        rotate_left
        · simp only [Act.put, List.setIfInBounds_toArray, List.set_cons_zero, List.set_cons_succ, i64_w, i32_w]
          rfl
        refine pure_ (i := 23) (N := some 66) (v := ?_) (a' := ?_) #[true, false, false, true, true, true, true, false, true, false, false, true, true, true, true, false, false, false, true, true, true, true, false, true, false, false, false, false, false, false, false, false, false, false, false, false, false] rfl rfl (by kernel_rfl) (fun _ _ _ h => h) (Or.inl ⟨by rfl, ?_⟩) ?_ ?_
        rotate_left
        · intro w'
          go_simp
          with_reducible rfl
        rotate_left
        · simp only [Act.put, List.setIfInBounds_toArray, List.set_cons_zero, List.set_cons_succ, i64_w, i32_w]
          rfl
        refine pure_ (i := 27) (N := some 70) (v := ?_) (a' := ?_) #[true, false, false, true, true, true, true, false, true, false, false, true, true, true, true, false, false, false, true, true, true, true, false, true, false, false, false, true, false, false, false, false, false, false, false, false, false] rfl rfl (by kernel_rfl) (fun _ _ _ h => h) (Or.inl ⟨by rfl, ?_⟩) ?_ ?_
        rotate_left
        · intro w'
          go_simp
          with_reducible rfl
        rotate_left
        · simp only [Act.put, List.setIfInBounds_toArray, List.set_cons_zero, List.set_cons_succ, i64_w, i32_w]
          rfl
        refine pure_ (i := 28) (N := some 71) (v := ?_) (a' := ?_) #[true, false, false, true, true, true, true, false, true, false, false, true, true, true, true, false, false, false, true, true, true, true, false, true, false, false, false, true, true, false, false, false, false, false, false, false, false] rfl rfl (by kernel_rfl) (fun _ _ _ h => h) (Or.inl ⟨by rfl, ?_⟩) ?_ ?_
        rotate_left
        · intro w'
          go_simp
          with_reducible rfl
        rotate_left
        · simp only [Act.put, List.setIfInBounds_toArray, List.set_cons_zero, List.set_cons_succ, i64_w, i32_w]
          rfl
        refine pure_ (i := 29) (N := some 72) (v := ?_) (a' := ?_) #[true, false, false, true, true, true, true, false, true, false, false, true, true, true, true, false, false, false, true, true, true, true, false, true, false, false, false, true, true, true, false, false, false, false, false, false, false] rfl rfl (by kernel_rfl) (fun _ _ _ h => h) (Or.inl ⟨by rfl, ?_⟩) ?_ ?_
        rotate_left
        · intro w'
          go_simp
          with_reducible rfl
        rotate_left
        · simp only [Act.put, List.setIfInBounds_toArray, List.set_cons_zero, List.set_cons_succ, i64_w, i32_w]
          rfl
        refine pure_ (i := 30) (N := some 73) (v := ?_) (a' := ?_) #[true, false, false, true, true, true, true, false, true, false, false, true, true, true, true, false, false, false, true, true, true, true, false, true, false, false, false, true, true, true, true, false, false, false, false, false, false] rfl rfl (by kernel_rfl) (fun _ _ _ h => h) (Or.inl ⟨by rfl, ?_⟩) ?_ ?_
        rotate_left
        · intro w'
          go_simp
          with_reducible rfl
        rotate_left
        · simp only [Act.put, List.setIfInBounds_toArray, List.set_cons_zero, List.set_cons_succ, i64_w, i32_w]
          rfl
        refine take_ (i := 1) (N := some 44) (v := ?_) (a' := ?_) #[true, true, false, true, true, true, true, false, true, false, false, true, true, true, true, false, false, false, true, true, true, true, false, true, false, false, false, true, true, true, true, false, false, false, false, false, false] rfl rfl (by kernel_rfl) (fun _ _ _ h => h) (Or.inl ⟨by rfl, ?_⟩) hHeld ?_ ?_
        rotate_left
        · intro w' s0
          have kc := bcell s0
          go_simp
          with_reducible rfl
        rotate_left
        · simp only [Act.put, List.setIfInBounds_toArray, List.set_cons_zero, List.set_cons_succ, i64_w, i32_w]
          rfl
        refine take_ (i := 2) (N := some 45) (v := ?_) (a' := ?_) #[true, true, true, true, true, true, true, false, true, false, false, true, true, true, true, false, false, false, true, true, true, true, false, true, false, false, false, true, true, true, true, false, false, false, false, false, false] rfl rfl (by kernel_rfl) (fun _ _ _ h => h) (Or.inl ⟨by rfl, ?_⟩) hHeld ?_ ?_
        rotate_left
        · intro w' s0
          have kc := bcell s0
          go_simp
          with_reducible rfl
        rotate_left
        · simp only [Act.put, List.setIfInBounds_toArray, List.set_cons_zero, List.set_cons_succ, i64_w, i32_w]
          rfl
        refine take_ (i := 7) (N := some 50) (v := ?_) (a' := ?_) #[true, true, true, true, true, true, true, true, true, false, false, true, true, true, true, false, false, false, true, true, true, true, false, true, false, false, false, true, true, true, true, false, false, false, false, false, false] rfl rfl (by kernel_rfl) (fun _ _ _ h => h) (Or.inl ⟨by rfl, ?_⟩) hHeld ?_ ?_
        rotate_left
        · intro w' s0
          have kc := bcell s0
          go_simp
          with_reducible rfl
        rotate_left
        · simp only [Act.put, List.setIfInBounds_toArray, List.set_cons_zero, List.set_cons_succ, i64_w, i32_w]
          rfl
        refine take_ (i := 9) (N := some 52) (v := ?_) (a' := ?_) #[true, true, true, true, true, true, true, true, true, true, false, true, true, true, true, false, false, false, true, true, true, true, false, true, false, false, false, true, true, true, true, false, false, false, false, false, false] rfl rfl (by kernel_rfl) (fun _ _ _ h => h) (Or.inl ⟨by rfl, ?_⟩) hHeld ?_ ?_
        rotate_left
        · intro w' s0
          have kc := bcell s0
          go_simp
          with_reducible rfl
        rotate_left
        · simp only [Act.put, List.setIfInBounds_toArray, List.set_cons_zero, List.set_cons_succ, i64_w, i32_w]
          rfl
        refine take_ (i := 15) (N := some 58) (v := ?_) (a' := ?_) #[true, true, true, true, true, true, true, true, true, true, false, true, true, true, true, true, false, false, true, true, true, true, false, true, false, false, false, true, true, true, true, false, false, false, false, false, false] rfl rfl (by kernel_rfl) (fun _ _ _ h => h) (Or.inl ⟨by rfl, ?_⟩) hHeld ?_ ?_
        rotate_left
        · intro w' s0
          have kc := bcell s0
          go_simp
          with_reducible rfl
        rotate_left
        · simp only [Act.put, List.setIfInBounds_toArray, List.set_cons_zero, List.set_cons_succ, i64_w, i32_w]
          rfl
        refine take_ (i := 17) (N := some 60) (v := ?_) (a' := ?_) #[true, true, true, true, true, true, true, true, true, true, false, true, true, true, true, true, false, true, true, true, true, true, false, true, false, false, false, true, true, true, true, false, false, false, false, false, false] rfl rfl (by kernel_rfl) (fun _ _ _ h => h) (Or.inl ⟨by rfl, ?_⟩) hHeld ?_ ?_
        rotate_left
        · intro w' s0
          have kc := bcell s0
          go_simp
          with_reducible rfl
        rotate_left
        · simp only [Act.put, List.setIfInBounds_toArray, List.set_cons_zero, List.set_cons_succ, i64_w, i32_w]
          rfl
        refine take_ (i := 22) (N := some 65) (v := ?_) (a' := ?_) #[true, true, true, true, true, true, true, true, true, true, false, true, true, true, true, true, false, true, true, true, true, true, true, true, false, false, false, true, true, true, true, false, false, false, false, false, false] rfl rfl (by kernel_rfl) (fun _ _ _ h => h) (Or.inl ⟨by rfl, ?_⟩) hHeld ?_ ?_
        rotate_left
        · intro w' s0
          have kc := bcell s0
          go_simp
          with_reducible rfl
        rotate_left
        · simp only [Act.put, List.setIfInBounds_toArray, List.set_cons_zero, List.set_cons_succ, i64_w, i32_w]
          rfl
        refine take_ (i := 24) (N := some 67) (v := ?_) (a' := ?_) #[true, true, true, true, true, true, true, true, true, true, false, true, true, true, true, true, false, true, true, true, true, true, true, true, true, false, false, true, true, true, true, false, false, false, false, false, false] rfl rfl (by kernel_rfl) (fun _ _ _ h => h) (Or.inl ⟨by rfl, ?_⟩) hHeld ?_ ?_
        rotate_left
        · intro w' s0
          have kc := bcell s0
          go_simp
          with_reducible rfl
        rotate_left
        · simp only [Act.put, List.setIfInBounds_toArray, List.set_cons_zero, List.set_cons_succ, i64_w, i32_w]
          rfl
        refine take_ (i := 31) (N := some 74) (v := ?_) (a' := ?_) #[true, true, true, true, true, true, true, true, true, true, false, true, true, true, true, true, false, true, true, true, true, true, true, true, true, false, false, true, true, true, true, true, false, false, false, false, false] rfl rfl (by kernel_rfl) (fun _ _ _ h => h) (Or.inl ⟨by rfl, ?_⟩) hHeld ?_ ?_
        rotate_left
        · intro w' s0
          have kc := bcell s0
          go_simp
          with_reducible rfl
        rotate_left
        · simp only [Act.put, List.setIfInBounds_toArray, List.set_cons_zero, List.set_cons_succ, i64_w, i32_w]
          rfl
        refine one_ (i := 10) (N := some 53) #[true, true, true, true, true, true, true, true, true, true, true, true, true, true, true, true, false, true, true, true, true, true, true, true, true, false, false, true, true, true, true, true, false, false, false, false, false] rfl rfl (by kernel_rfl) (by decide) (fun K hK => ?_)
        refine goes_ Tryd.func155 (by kernel_rfl) rfl #[.agg #[.int .i64 32, .int .i64 64, .slice (some ⟨g2, 0, none⟩) 3 c2, .slice (some ⟨g3, 0, none⟩) 3 c3, .slice (some ⟨g4, 0, none⟩) 3 c4, .slice (some ⟨g5, 0, none⟩) 3 c5, .slice (some ⟨g6, 0, none⟩) 64 c6, .slice A7 n7 c7], .int .u64 X2, .slice (some ⟨g5, 0, none⟩) 3 c5, .bool true] (by rfl) rfl rfl (by simp only [List.map_toArray, List.map_cons, List.map_nil]; rfl) ?_
        with_reducible refine (kS1 _ hHeld).mono ?_
        rintro e y1 ⟨rfl, hb_y1⟩
        refine ⟨_, rfl, ?_⟩
        have hq_y1 := hHeld.trans (hb_y1.mono hHeld.size)
        refine hK.out _ _ (hq_y1) (fun hHeld => ?_)
        clear hK K
        refine norm_ (a' := ?_) ?_ ?_
        rotate_left
        · show Act.put _ (some 53) _ = _
          simp only [Act.put, List.setIfInBounds_toArray, List.set_cons_zero, List.set_cons_succ, i64_w, i32_w]
          rfl
        refine pure_ (i := 16) (N := some 59) (v := ?_) (a' := ?_) #[true, true, true, true, true, true, true, true, true, true, true, true, true, true, true, true, true, true, true, true, true, true, true, true, true, false, false, true, true, true, true, true, false, false, false, false, false] rfl rfl (by kernel_rfl) (fun _ _ _ h => h) (Or.inl ⟨by rfl, ?_⟩) ?_ ?_
        rotate_left
        · intro w'
          go_simp
          with_reducible rfl
        rotate_left
        · simp only [Act.put, List.setIfInBounds_toArray, List.set_cons_zero, List.set_cons_succ, i64_w, i32_w]
          rfl
        refine one_ (i := 25) (N := some 68) #[true, true, true, true, true, true, true, true, true, true, true, true, true, true, true, true, true, true, true, true, true, true, true, true, true, true, false, true, true, true, true, true, false, false, false, false, false] rfl rfl (by kernel_rfl) (by decide) (fun K hK => ?_)
        refine goes_ Tryd.func155 (by kernel_rfl) rfl #[.agg #[.int .i64 32, .int .i64 64, .slice (some ⟨g2, 0, none⟩) 3 c2, .slice (some ⟨g3, 0, none⟩) 3 c3, .slice (some ⟨g4, 0, none⟩) 3 c4, .slice (some ⟨g5, 0, none⟩) 3 c5, .slice (some ⟨g6, 0, none⟩) 64 c6, .slice A7 n7 c7], .int .u64 X15, .slice (some ⟨g4, 0, none⟩) 3 c4, .bool true] (by rfl) rfl rfl (by simp only [List.map_toArray, List.map_cons, List.map_nil]; rfl) ?_
        with_reducible refine (kS0 _ hHeld).mono ?_
        rintro e y2 ⟨rfl, hb_y2⟩
        refine ⟨_, rfl, ?_⟩
        have hq_y2 := hHeld.trans (hb_y2.mono hHeld.size)
        refine hK.out _ _ (hq_y2) (fun hHeld => ?_)
        clear hK K
        refine norm_ (a' := ?_) ?_ ?_
        rotate_left
        · show Act.put _ (some 68) _ = _
          simp only [Act.put, List.setIfInBounds_toArray, List.set_cons_zero, List.set_cons_succ, i64_w, i32_w]
          rfl
        refine pure_ (i := 26) (N := some 69) (v := ?_) (a' := ?_) #[true, true, true, true, true, true, true, true, true, true, true, true, true, true, true, true, true, true, true, true, true, true, true, true, true, true, true, true, true, true, true, true, false, false, false, false, false] rfl rfl (by kernel_rfl) (fun _ _ _ h => h) (Or.inl ⟨by rfl, ?_⟩) ?_ ?_
        rotate_left
        · intro w'
          go_simp
          with_reducible rfl
        rotate_left
        · simp only [Act.put, List.setIfInBounds_toArray, List.set_cons_zero, List.set_cons_succ, i64_w, i32_w]
          rfl
        refine pure_ (i := 32) (N := some 75) (v := ?_) (a' := ?_) #[true, true, true, true, true, true, true, true, true, true, true, true, true, true, true, true, true, true, true, true, true, true, true, true, true, true, true, true, true, true, true, true, true, false, false, false, false] rfl rfl (by kernel_rfl) (fun _ _ _ h => h) (Or.inl ⟨by rfl, ?_⟩) ?_ ?_
        rotate_left
        · intro w'
          go_simp
          with_reducible rfl
        rotate_left
        · simp only [Act.put, List.setIfInBounds_toArray, List.set_cons_zero, List.set_cons_succ, i64_w, i32_w]
          rfl
        refine one_ (i := 33) (N := some 76) #[true, true, true, true, true, true, true, true, true, true, true, true, true, true, true, true, true, true, true, true, true, true, true, true, true, true, true, true, true, true, true, true, true, true, false, false, false] rfl rfl (by kernel_rfl) (by decide) (fun K hK => ?_)
        refine goes_ Tryd.func154 (by kernel_rfl) rfl #[.agg #[.int .i64 32, .int .i64 64, .slice (some ⟨g2, 0, none⟩) 3 c2, .slice (some ⟨g3, 0, none⟩) 3 c3, .slice (some ⟨g4, 0, none⟩) 3 c4, .slice (some ⟨g5, 0, none⟩) 3 c5, .slice (some ⟨g6, 0, none⟩) 64 c6, .slice A7 n7 c7], .int .u64 P3] (by rfl) rfl rfl (by simp only [List.map_toArray, List.map_cons, List.map_nil]; rfl) ?_
        with_reducible refine (kC _).mono ?_
        rintro e y3 ⟨rfl, hb_y3⟩
        refine ⟨_, rfl, ?_⟩
        have hq_y3 := hHeld.trans (hb_y3.mono hHeld.size)
        refine hK.out _ _ (hq_y3) (fun hHeld => ?_)
        clear hK K
        refine norm_ (a' := ?_) ?_ ?_
        rotate_left
        · show Act.put _ (some 76) _ = _
          simp only [Act.put, List.setIfInBounds_toArray, List.set_cons_zero, List.set_cons_succ, i64_w, i32_w]
          rfl
        refine one_ (i := 34) (N := some 77) #[true, true, true, true, true, true, true, true, true, true, true, true, true, true, true, true, true, true, true, true, true, true, true, true, true, true, true, true, true, true, true, true, true, true, true, false, false] rfl rfl (by kernel_rfl) (by decide) (fun K hK => ?_)
        refine value_ (w1 := ?_) (v := ?_) (by rfl) rfl ?_ ?_
        rotate_left 2
        · go_simp
          constructor
          · rfl
          · rfl
        refine hK.out _ _ ((hHeld.alloc hHeld.size _)) (fun hHeld => ?_)
        clear hK K
        refine norm_ (a' := ?_) ?_ ?_
        rotate_left
        · show Act.put _ (some 77) _ = _
          simp only [Act.put, List.setIfInBounds_toArray, List.set_cons_zero, List.set_cons_succ, i64_w, i32_w]
          rfl
        refine last_ (i := 35) (N := some 78) #[true, true, true, true, true, true, true, true, true, true, true, true, true, true, true, true, true, true, true, true, true, true, true, true, true, true, true, true, true, true, true, true, true, true, true, true, false] rfl rfl (by kernel_rfl) (by decide) (fun K hK => ?_)
        refine step_append_cells (W := y3) n0 (by rfl) (.tmp 43) (.tmp 77) 142 135 (.int .u64 0) 1 8 rfl Tryd.underlying142 inf135 rfl (by decide) (by decide) (.slice (some ⟨g8, 0, none⟩) t c8) t (nums .u64 (natsI row)) [.int .u64 (Z : Nat)] (by rfl) (by rfl) rfl (by simp [Value.oneCell']) (pw_own_below HOWN.out hq_y3) (HBEL.out.trans (hq_y3.mono HN0W.out)) (Nat.le_trans HN0W.out hq_y3.size) (by omega) ?_
        intro v6 w6 hown6 hB6 hg6 _
        have HO6 := Lib.hid hown6
        have HB6 := Lib.hid hB6
        have HG6 := Lib.hid hg6
        have HQ3 := Lib.hid hq_y3
        clear hown6 hB6 hg6
        refine hK.out _ _ ?_
        clear hK K
        refine norm_ (a' := ?_) ?_ ?_
        rotate_left
        · show Act.put _ (some 78) _ = _
          simp only [Act.put, List.setIfInBounds_toArray, List.set_cons_zero, List.set_cons_succ, i64_w, i32_w]
          rfl
        refine pure_ (i := 36) (N := some 8) (v := ?_) (a' := ?_) #[true, true, true, true, true, true, true, true, true, true, true, true, true, true, true, true, true, true, true, true, true, true, true, true, true, true, true, true, true, true, true, true, true, true, true, true, true] rfl rfl (by kernel_rfl) (fun _ _ _ h => h) (Or.inl ⟨by rfl, ?_⟩) ?_ ?_
        rotate_left
        · intro w'
          go_simp
          with_reducible rfl
        rotate_left
        · simp only [Act.put, List.setIfInBounds_toArray, List.set_cons_zero, List.set_cons_succ, i64_w, i32_w]
          rfl
        refine done_ (by kernel_rfl) ?_
        simp only [calmly]
        go_wp2
        refine ⟨⟨t + 1, rfl, by omega, ?_, HB6.out, ?_⟩, by simp only [intOf]; omega⟩
        · have e1 : nums .u64 (natsI (sV (words l) (t + 1))) = nums .u64 (natsI row) ++ [Value.int .u64 (Z : Int)] := by rw [HSN.out, natsI_append, nums_append]; rfl
          rw [e1]; exact HO6.out
        · exact (HG6.out.block n0 (by have := HQ3.out.size; omega) (fun e => HNE.out (by rw [← e]))).trans ((HQ3.out.block n0 hbx1).trans HBX.out)
    · have hd : decide ((t : Int) < 64) = false := decide_eq_false (by omega)
      have ht64 : t = 64 := by omega
      subst ht64
      obtain ⟨g8, c8, rfl, _⟩ := own_form2 hown (by omega)
      have hc8 := OwnU.cell hown
      obtain ⟨ws, hws⟩ : ∃ ws, ws = sch (words l) 48 := ⟨_, rfl⟩
      have hrow : sV (words l) 64 = ws := by rw [hws, sV_ge _ _ HWL.out (by decide)]
      rw [hrow] at hc8
      have hg8 := (hown.lt g8 rfl).2
      have hHS : ReadsInt wr .u64 (some ⟨gs, 0, none⟩) 8 (natsI st0) := HS.out.below (HN.out ▸ hbel)
      have hnl8 : (([] : List Int).length + 8) * 8 ≤ 140737488355328 := by decide
      have HBX := Lib.hid hbx
      have HBEL := Lib.hid hbel
      have HC8 := Lib.hid hc8
      have HWS := Lib.hid hws
      clear hown hbx hbel hc8 hws hrow
      go_wp2_with (at_builtin; go_loud (refine print_append_row (w0 := w) n0 rfl _ _ 142 135 .u64 8 rfl Tryd.underlying142 inf135 (by decide) (.slice none 0 0) [] (natsI st0) (some ⟨gs, 0, none⟩) 8 cs rfl rfl (own_nil _ _ _ _) hHS HBEL.out hn0w hnl8 ?_; intro v6 w6 hown6 hB6 hg6 _; have HO6 := Lib.hid hown6; have HB6 := Lib.hid hB6; have HG6 := Lib.hid hg6; clear hown6 hB6 hg6))
      have hwr6 : Below wr.heap.size wr w6 := ⟨HG6.out.os, HG6.out.tape, HG6.out.output, HG6.out.size, fun k hk => HG6.out.block k hk (fun e => by cases e)⟩
      clear q0 q1 q2 q3 q4 q5 q6 q7
      have hl6 : (([] : List Int) ++ natsI st0).length = 8 := by rw [List.nil_append, natsI_length, HST.out.1]
      have ho6 : w6.ownsRow n0 135 1 v6 8 (nums .u64 (natsI st0)) := by have := HO6.out; rw [hl6] at this; simpa using this
      have HHO := Lib.hid ho6
      have HW6 := Lib.hid hwr6
      clear ho6 hwr6 hHS hnl8 hl6
      obtain ⟨wA, rfl⟩ : ∃ wA : World, wA = wr := ⟨_, rfl⟩
      go_loopw [10, 11] (fun v10 v11 w2 => ∃ (t s0 s1 s2 s3 s4 s5 s6 s7 : Nat), v11 = .int .i64 t ∧ t ≤ 64 ∧ w2.ownsRow n0 135 1 v10 8 (nums .u64 (natsI [s0, s1, s2, s3, s4, s5, s6, s7])) ∧ Below wA.heap.size wA w2 ∧
        Hid ([s0, s1, s2, s3, s4, s5, s6, s7] = stepsN st0 ws t ∧ ∀ x ∈ [s0, s1, s2, s3, s4, s5, s6, s7], x < 4294967296)) (fun _ v11 _ => 64 - (intOf v11).toNat)
      case atStart =>
        obtain ⟨a0, a1, a2, a3, a4, a5, a6, a7, h8⟩ := list8 _ HST.out.1
        exact ⟨0, a0, a1, a2, a3, a4, a5, a6, a7, rfl, by omega, h8 ▸ HHO.out, HW6.out, Lib.hid ⟨h8.symm, h8 ▸ HST.out.2⟩⟩
      case round =>
        obtain ⟨t, s0, s1, s2, s3, s4, s5, s6, s7, rfl, ht, hown, hb2, HX⟩ := hrel
        have hbx := HBX.out.below hb2 HBX.out.lt
        obtain ⟨q0, q1, q2, q3, q4, q5, q6, q7⟩ := hbx.cells
        obtain ⟨g10, c10, rfl, _⟩ := own_form2 hown (by omega)
        have hc := OwnU.cell hown
        have p0 := (hc 0 (by decide)).1
        have p1 := (hc 1 (by decide)).1
        have p2 := (hc 2 (by decide)).1
        have p3 := (hc 3 (by decide)).1
        have p4 := (hc 4 (by decide)).1
        have p5 := (hc 5 (by decide)).1
        have p6 := (hc 6 (by decide)).1
        have p7 := (hc 7 (by decide)).1
        simp only [List.getD_cons_zero, List.getD_cons_succ] at p0 p1 p2 p3 p4 p5 p6 p7
        have hg10 := (hown.lt g10 rfl).2
        have hbxl := hbx.lt
        have hlw : wA.heap.size ≤ wr.heap.size := hb2.size
        by_cases hlt : t < 64
        · have hd : decide ((t : Int) < 64) = true := decide_eq_true (by omega)
          have hI1 : (t : Int) < 64 := by omega
          have hI0 : (0 : Int) ≤ (t : Int) := by omega
          have hI2 : (t : Int).toNat = t := Int.toNat_natCast _
          have hW1 := (HW.out.below (HN.out.symm ▸ HBEL.out)).below hb2
          have pk := hW1.k t hlt
          rw [K32_at t hlt] at pk
          have hg6 : g6 < wr.heap.size := World.block_lt_of_cell? wr ⟨g6, 0, none⟩ (hW1.k 0 (by decide))
          have pw := (hb2.cell (p := ⟨g8, t, none⟩) hg8).trans (HC8.out t hlt).1
          have hg8w : g8 < wr.heap.size := by omega
          obtain ⟨Kt, hKt⟩ : ∃ K, K = K64.getD t 0 / 4294967296 := ⟨_, rfl⟩
          rw [← hKt] at pk
          obtain ⟨Wt, hWt⟩ : ∃ W, W = ws.getD t 0 := ⟨_, rfl⟩
          rw [← hWt] at pw
          have hlts := HX.out.2
          have l0 : s0 < 4294967296 := hlts _ (by simp)
          have l1 : s1 < 4294967296 := hlts _ (by simp)
          have l2 : s2 < 4294967296 := hlts _ (by simp)
          have l3 : s3 < 4294967296 := hlts _ (by simp)
          have l4 : s4 < 4294967296 := hlts _ (by simp)
          have l5 : s5 < 4294967296 := hlts _ (by simp)
          have l6 : s6 < 4294967296 := hlts _ (by simp)
          have l7 : s7 < 4294967296 := hlts _ (by simp)
          have hKl : Kt < 4294967296 := by rw [hKt, ← K32_at t hlt]; exact K32_lt t
          have hWl : Wt < 4294967296 := by rw [hWt, HWS.out]; exact sch_getD_lt _ HWLT.out _ _
          have zc : bits .or .u64 (bits .and .u64 (s4 : Int) (s5 : Int)) (bits .and .u64 (bits .xor .u64 4294967295 (s4 : Int)) (s6 : Int)) = ((chN s4 s5 s6 : Nat) : Int) := bits_ch64 s4 s5 s6 l4 l5 l6
          have zm : bits .or .u64 (bits .or .u64 (bits .and .u64 (s0 : Int) (s1 : Int)) (bits .and .u64 (s0 : Int) (s2 : Int))) (bits .and .u64 (s1 : Int) (s2 : Int)) = ((majN s0 s1 s2 : Nat) : Int) := bits_maj64 s0 s1 s2 l0 l1 l2
          have lC := chN_lt s4 s5 s6 l4 l5 l6
          have lM := majN_lt s0 s1 s2 l0 l1 l2
          have lE := sig_lt 6 11 25 s4 (by decide) (by decide) (by decide) l4
          have lA := sig_lt 2 13 22 s0 (by decide) (by decide) (by decide) l0
          have kE : ∀ w', Below wr.heap.size wr w' → Calls Tryd.prog 155 #[.agg #[.int .i64 32, .int .i64 64, .slice (some ⟨g2, 0, none⟩) 3 c2, .slice (some ⟨g3, 0, none⟩) 3 c3, .slice (some ⟨g4, 0, none⟩) 3 c4, .slice (some ⟨g5, 0, none⟩) 3 c5, .slice (some ⟨g6, 0, none⟩) 64 c6, .slice A7 n7 c7], .int .u64 s4, .slice (some ⟨g3, 0, none⟩) 3 c3, .bool false] w' fun e w'' => e = .returned (.int .u64 (sig 6 11 25 s4 : Nat)) ∧ Below w'.heap.size w' w'' := fun w' hC => three_f _ _ _ _ _ _ c2 c3 c4 c5 c6 c7 64 n7 s4 l4 g3 6 11 25 c3 (by decide) (by decide) (by decide) w' (hW1.r3.below hC hW1.r3.lt)
          have kA : ∀ w', Below wr.heap.size wr w' → Calls Tryd.prog 155 #[.agg #[.int .i64 32, .int .i64 64, .slice (some ⟨g2, 0, none⟩) 3 c2, .slice (some ⟨g3, 0, none⟩) 3 c3, .slice (some ⟨g4, 0, none⟩) 3 c4, .slice (some ⟨g5, 0, none⟩) 3 c5, .slice (some ⟨g6, 0, none⟩) 64 c6, .slice A7 n7 c7], .int .u64 s0, .slice (some ⟨g2, 0, none⟩) 3 c2, .bool false] w' fun e w'' => e = .returned (.int .u64 (sig 2 13 22 s0 : Nat)) ∧ Below w'.heap.size w' w'' := fun w' hC => three_f _ _ _ _ _ _ c2 c3 c4 c5 c6 c7 64 n7 s0 l0 g2 2 13 22 c2 (by decide) (by decide) (by decide) w' (hW1.r2.below hC hW1.r2.lt)
          have hsd : stepN [s0, s1, s2, s3, s4, s5, s6, s7] Kt Wt = [((s7 + sig 6 11 25 s4 + chN s4 s5 s6 + Kt + Wt) % 4294967296 + (sig 2 13 22 s0 + majN s0 s1 s2) % 4294967296) % 4294967296, s0, s1, s2, (s3 + (s7 + sig 6 11 25 s4 + chN s4 s5 s6 + Kt + Wt) % 4294967296) % 4294967296, s4, s5, s6] := rfl
          obtain ⟨E, hE⟩ : ∃ E, E = sig 6 11 25 s4 := ⟨_, rfl⟩
          obtain ⟨A, hA⟩ : ∃ A, A = sig 2 13 22 s0 := ⟨_, rfl⟩
          obtain ⟨Ch, hCh⟩ : ∃ C, C = chN s4 s5 s6 := ⟨_, rfl⟩
          obtain ⟨Mj, hMj⟩ : ∃ M, M = majN s0 s1 s2 := ⟨_, rfl⟩
          rw [← hE] at kE lE hsd
          rw [← hA] at kA lA hsd
          rw [← hCh] at zc lC hsd
          rw [← hMj] at zm lM hsd
          obtain ⟨P1, hP1⟩ : ∃ P, P = s7 + E := ⟨_, rfl⟩
          obtain ⟨P2, hP2⟩ : ∃ P, P = P1 + Ch := ⟨_, rfl⟩
          obtain ⟨P3, hP3⟩ : ∃ P, P = P2 + Kt := ⟨_, rfl⟩
          obtain ⟨P4, hP4⟩ : ∃ P, P = P3 + Wt := ⟨_, rfl⟩
          obtain ⟨P5, hP5⟩ : ∃ P, P = A + Mj := ⟨_, rfl⟩
          rw [← hP1, ← hP2, ← hP3, ← hP4, ← hP5] at hsd
          have z1 : IntKind.u64.wrap ((s7 : Int) + (E : Int)) = (P1 : Int) := by rw [IntKind.wrap_u64]; omega
          have z2 : IntKind.u64.wrap ((P1 : Int) + (Ch : Int)) = (P2 : Int) := by rw [IntKind.wrap_u64]; omega
          have z3 : IntKind.u64.wrap ((P2 : Int) + (Kt : Int)) = (P3 : Int) := by rw [IntKind.wrap_u64]; omega
          have z4 : IntKind.u64.wrap ((P3 : Int) + (Wt : Int)) = (P4 : Int) := by rw [IntKind.wrap_u64]; omega
          have z5 : IntKind.u64.wrap ((A : Int) + (Mj : Int)) = (P5 : Int) := by rw [IntKind.wrap_u64]; omega
          have b4 : P4 < 18446744073709551616 := by omega
          have b5 : P5 < 18446744073709551616 := by omega
          obtain ⟨X, hX⟩ : ∃ X, X = P4 % 4294967296 := ⟨_, rfl⟩
          obtain ⟨Y, hY⟩ : ∃ Y, Y = P5 % 4294967296 := ⟨_, rfl⟩
          rw [← hX, ← hY] at hsd
          obtain ⟨P6, hP6⟩ : ∃ P, P = X + Y := ⟨_, rfl⟩
          obtain ⟨P7, hP7⟩ : ∃ P, P = s3 + X := ⟨_, rfl⟩
          rw [← hP6, ← hP7] at hsd
          have z6 : IntKind.u64.wrap ((X : Int) + (Y : Int)) = (P6 : Int) := by rw [IntKind.wrap_u64]; omega
          have z7 : IntKind.u64.wrap ((s3 : Int) + (X : Int)) = (P7 : Int) := by rw [IntKind.wrap_u64]; omega
          obtain ⟨N0, hN0⟩ : ∃ X, X = P6 % 4294967296 := ⟨_, rfl⟩
          obtain ⟨N4, hN4⟩ : ∃ Y, Y = P7 % 4294967296 := ⟨_, rfl⟩
          rw [← hN0, ← hN4] at hsd
          have kC4 := fun w' => cut_calls (some ⟨g2, 0, none⟩) (some ⟨g3, 0, none⟩) (some ⟨g4, 0, none⟩) (some ⟨g5, 0, none⟩) (some ⟨g6, 0, none⟩) A7 c2 c3 c4 c5 c6 c7 64 n7 P4 (by omega) w'
          have kC5 := fun w' => cut_calls (some ⟨g2, 0, none⟩) (some ⟨g3, 0, none⟩) (some ⟨g4, 0, none⟩) (some ⟨g5, 0, none⟩) (some ⟨g6, 0, none⟩) A7 c2 c3 c4 c5 c6 c7 64 n7 P5 (by omega) w'
          have kC6 := fun w' => cut_calls (some ⟨g2, 0, none⟩) (some ⟨g3, 0, none⟩) (some ⟨g4, 0, none⟩) (some ⟨g5, 0, none⟩) (some ⟨g6, 0, none⟩) A7 c2 c3 c4 c5 c6 c7 64 n7 P6 (by omega) w'
          have kC7 := fun w' => cut_calls (some ⟨g2, 0, none⟩) (some ⟨g3, 0, none⟩) (some ⟨g4, 0, none⟩) (some ⟨g5, 0, none⟩) (some ⟨g6, 0, none⟩) A7 c2 c3 c4 c5 c6 c7 64 n7 P7 (by omega) w'
          rw [← hX] at kC4
          rw [← hY] at kC5
          rw [← hN0] at kC6
          rw [← hN4] at kC7
          have kO : ∀ w', Calls Tryd.prog 154 #[.agg #[.int .i64 32, .int .i64 64, .slice (some ⟨g2, 0, none⟩) 3 c2, .slice (some ⟨g3, 0, none⟩) 3 c3, .slice (some ⟨g4, 0, none⟩) 3 c4, .slice (some ⟨g5, 0, none⟩) 3 c5, .slice (some ⟨g6, 0, none⟩) 64 c6, .slice A7 n7 c7], .int .u64 18446744073709551615] w' fun e w'' => e = .returned (.int .u64 4294967295) ∧ Below w'.heap.size w' w'' := fun w' => cut_calls _ _ _ _ _ _ c2 c3 c4 c5 c6 c7 64 n7 18446744073709551615 (by decide) w'
          have HSD := Lib.hid hsd
          have HKt := Lib.hid hKt
          have HWt := Lib.hid hWt
          have HB2 := Lib.hid hb2
          have KE := Lib.hid kE
          have KA := Lib.hid kA
          have KO := Lib.hid kO
          have KC4 := Lib.hid kC4
          have KC5 := Lib.hid kC5
          have KC6 := Lib.hid kC6
          have KC7 := Lib.hid kC7
          have hgl := hg8w
          clear hsd hKt hWt hE hA hCh hMj hP1 hP2 hP3 hP4 hP5 hP6 hP7 hX hY hN0 hN4 hlts l0 l1 l2 l3 l4 l5 l6 l7 hKl hWl lC lM lE lA b4 b5 kE kA kO kC4 kC5 kC6 kC7 hW1 hown hc hbx hb2
          go_wp2_with (go_at_call 154; with_reducible refine (KO.out _).mono ?_; rintro e w3 ⟨rfl, hb3⟩; have HBc := Lib.hid hb3; have kc3 := bcell hb3; clear hb3)
          refine wp_region_base (W0 := wr) HBc.out rfl (by kernel_rfl) (by kernel_rfl) ?_
          repeat (first
            | (refine wpQuietIn_go (v := ?_) (a' := ?_) rfl (fun _ => trivial) (fun w' hC => qval ?_) rfl ?_ ?_; rotate_left; rotate_left; (have kc := bcell hC; go_simp; with_reducible rfl); (simp only [Act.put, List.setIfInBounds_toArray, List.set_cons_zero, List.set_cons_succ, i64_w, i32_w]; rfl)))
          refine wpQuietIn_nil ?_
          intro w4 hb4
          clear kc3
          have HBc := Lib.hid hb4
          have kc3 := bcell hb4
          clear hb4
          go_wp2
          refine wp_region_base (W0 := wr) HBc.out rfl (by kernel_rfl) (by kernel_rfl) ?_
          repeat (first
            | (refine wpQuietIn_go (v := ?_) (a' := ?_) rfl (fun _ => trivial) (fun w' hC => qval ?_) rfl ?_ ?_; rotate_left; rotate_left; (have kc := bcell hC; go_simp; with_reducible rfl); (simp only [Act.put, List.setIfInBounds_toArray, List.set_cons_zero, List.set_cons_succ, i64_w, i32_w]; rfl)))
          refine wpQuietIn_nil ?_
          intro w5 hb5
          clear kc3
          have HBc := Lib.hid hb5
          have kc3 := bcell hb5
          clear hb5
          go_wp2
          refine wp_region_base (W0 := wr) HBc.out rfl (by kernel_rfl) (by kernel_rfl) ?_
          repeat (first
            | (refine wpQuietIn_go (v := ?_) (a' := ?_) rfl (fun _ => trivial) (fun w' hC => qval ?_) rfl ?_ ?_; rotate_left; rotate_left; (have kc := bcell hC; go_simp; with_reducible rfl); (simp only [Act.put, List.setIfInBounds_toArray, List.set_cons_zero, List.set_cons_succ, i64_w, i32_w]; rfl))
            | (refine wpQuietIn_go (v := .int .u64 (E : Nat)) (a' := ?_) rfl (fun _ => trivial) (fun w' hC => bqcall 155 #[.agg #[.int .i64 32, .int .i64 64, .slice (some ⟨g2, 0, none⟩) 3 c2, .slice (some ⟨g3, 0, none⟩) 3 c3, .slice (some ⟨g4, 0, none⟩) 3 c4, .slice (some ⟨g5, 0, none⟩) 3 c5, .slice (some ⟨g6, 0, none⟩) 64 c6, .slice A7 n7 c7], .int .u64 s4, .slice (some ⟨g3, 0, none⟩) 3 c3, .bool false] ?_ hC (KE.out w' hC)) rfl ?_ ?_; rotate_left; go_simp; (simp only [Act.put, List.setIfInBounds_toArray, List.set_cons_zero, List.set_cons_succ, i64_w, i32_w]; rfl))
            | (refine wpQuietIn_go (v := .int .u64 (X : Nat)) (a' := ?_) rfl (fun _ => trivial) (fun w' hC => bqcall 154 #[.agg #[.int .i64 32, .int .i64 64, .slice (some ⟨g2, 0, none⟩) 3 c2, .slice (some ⟨g3, 0, none⟩) 3 c3, .slice (some ⟨g4, 0, none⟩) 3 c4, .slice (some ⟨g5, 0, none⟩) 3 c5, .slice (some ⟨g6, 0, none⟩) 64 c6, .slice A7 n7 c7], .int .u64 P4] ?_ hC (KC4.out w')) rfl ?_ ?_; rotate_left; go_simp; (simp only [Act.put, List.setIfInBounds_toArray, List.set_cons_zero, List.set_cons_succ, i64_w, i32_w]; rfl)))
          refine wpQuietIn_nil ?_
          intro w6 hb6
          clear kc3
          have HBc := Lib.hid hb6
          have kc3 := bcell hb6
          clear hb6
          go_wp2
          refine wp_region_base (W0 := wr) HBc.out rfl (by kernel_rfl) (by kernel_rfl) ?_
          repeat (first
            | (refine wpQuietIn_go (v := ?_) (a' := ?_) rfl (fun _ => trivial) (fun w' hC => qval ?_) rfl ?_ ?_; rotate_left; rotate_left; (have kc := bcell hC; go_simp; with_reducible rfl); (simp only [Act.put, List.setIfInBounds_toArray, List.set_cons_zero, List.set_cons_succ, i64_w, i32_w]; rfl))
            | (refine wpQuietIn_go (v := .int .u64 (A : Nat)) (a' := ?_) rfl (fun _ => trivial) (fun w' hC => bqcall 155 #[.agg #[.int .i64 32, .int .i64 64, .slice (some ⟨g2, 0, none⟩) 3 c2, .slice (some ⟨g3, 0, none⟩) 3 c3, .slice (some ⟨g4, 0, none⟩) 3 c4, .slice (some ⟨g5, 0, none⟩) 3 c5, .slice (some ⟨g6, 0, none⟩) 64 c6, .slice A7 n7 c7], .int .u64 s0, .slice (some ⟨g2, 0, none⟩) 3 c2, .bool false] ?_ hC (KA.out w' hC)) rfl ?_ ?_; rotate_left; go_simp; (simp only [Act.put, List.setIfInBounds_toArray, List.set_cons_zero, List.set_cons_succ, i64_w, i32_w]; rfl))
            | (refine wpQuietIn_go (v := .int .u64 (Y : Nat)) (a' := ?_) rfl (fun _ => trivial) (fun w' hC => bqcall 154 #[.agg #[.int .i64 32, .int .i64 64, .slice (some ⟨g2, 0, none⟩) 3 c2, .slice (some ⟨g3, 0, none⟩) 3 c3, .slice (some ⟨g4, 0, none⟩) 3 c4, .slice (some ⟨g5, 0, none⟩) 3 c5, .slice (some ⟨g6, 0, none⟩) 64 c6, .slice A7 n7 c7], .int .u64 P5] ?_ hC (KC5.out w')) rfl ?_ ?_; rotate_left; go_simp; (simp only [Act.put, List.setIfInBounds_toArray, List.set_cons_zero, List.set_cons_succ, i64_w, i32_w]; rfl)))
          refine wpQuietIn_nil ?_
          intro w7 hb7
          clear kc3
          have HBc := Lib.hid hb7
          have kc3 := bcell hb7
          clear hb7
          go_wp2
          refine calm_ ?_
          refine start_ (n := 32) (S := fun w' => Below wr.heap.size wr w') (ds := [30]) #[false, false, false, false, false, false, false, false, false, false, false, false, false, false, false, false, false, false, false, false, false, false, false, false, false, false, false, false, false, false, false, false] (by kernel_rfl) rfl rfl (HBc.out.drew) (fun hHeld => ?_)
          refine pure_ (i := 1) (N := some 168) (v := ?_) (a' := ?_) #[false, true, false, false, false, false, false, false, false, false, false, false, false, false, false, false, false, false, false, false, false, false, false, false, false, false, false, false, false, false, false, false] rfl rfl (by kernel_rfl) (fun _ _ _ h => h) (Or.inl ⟨by rfl, ?_⟩) ?_ ?_
          rotate_left
          · intro w'
            go_simp
            with_reducible rfl
          rotate_left
          · simp only [Act.put, List.setIfInBounds_toArray, List.set_cons_zero, List.set_cons_succ, i64_w, i32_w]
            rfl
          refine pure_ (i := 2) (N := some 169) (v := ?_) (a' := ?_) #[false, true, true, false, false, false, false, false, false, false, false, false, false, false, false, false, false, false, false, false, false, false, false, false, false, false, false, false, false, false, false, false] rfl rfl (by kernel_rfl) (fun _ _ _ h => h) (Or.inl ⟨by rfl, ?_⟩) ?_ ?_
          rotate_left
          · intro w'
            go_simp
            with_reducible rfl
          rotate_left
          · simp only [Act.put, List.setIfInBounds_toArray, List.set_cons_zero, List.set_cons_succ, i64_w, i32_w]
            rfl
          refine pure_ (i := 3) (N := some 170) (v := ?_) (a' := ?_) #[false, true, true, true, false, false, false, false, false, false, false, false, false, false, false, false, false, false, false, false, false, false, false, false, false, false, false, false, false, false, false, false] rfl rfl (by kernel_rfl) (fun _ _ _ h => h) (Or.inl ⟨by rfl, ?_⟩) ?_ ?_
          rotate_left
          · intro w'
            go_simp
            with_reducible rfl
          rotate_left
          · simp only [Act.put, List.setIfInBounds_toArray, List.set_cons_zero, List.set_cons_succ, i64_w, i32_w]
            rfl
          refine pure_ (i := 5) (N := some 172) (v := ?_) (a' := ?_) #[false, true, true, true, false, true, false, false, false, false, false, false, false, false, false, false, false, false, false, false, false, false, false, false, false, false, false, false, false, false, false, false] rfl rfl (by kernel_rfl) (fun _ _ _ h => h) (Or.inl ⟨by rfl, ?_⟩) ?_ ?_
          rotate_left
          · intro w'
            go_simp
            with_reducible rfl
          rotate_left
          · simp only [Act.put, List.setIfInBounds_toArray, List.set_cons_zero, List.set_cons_succ, i64_w, i32_w]
            rfl
          refine pure_ (i := 6) (N := some 173) (v := ?_) (a' := ?_) #[false, true, true, true, false, true, true, false, false, false, false, false, false, false, false, false, false, false, false, false, false, false, false, false, false, false, false, false, false, false, false, false] rfl rfl (by kernel_rfl) (fun _ _ _ h => h) (Or.inl ⟨by rfl, ?_⟩) ?_ ?_
          rotate_left
          · intro w'
            go_simp
            with_reducible rfl
          rotate_left
          · simp only [Act.put, List.setIfInBounds_toArray, List.set_cons_zero, List.set_cons_succ, i64_w, i32_w]
            rfl
          refine pure_ (i := 8) (N := some 175) (v := ?_) (a' := ?_) #[false, true, true, true, false, true, true, false, true, false, false, false, false, false, false, false, false, false, false, false, false, false, false, false, false, false, false, false, false, false, false, false] rfl rfl (by kernel_rfl) (fun _ _ _ h => h) (Or.inl ⟨by rfl, ?_⟩) ?_ ?_
          rotate_left
          · intro w'
            go_simp
            with_reducible rfl
          rotate_left
          · simp only [Act.put, List.setIfInBounds_toArray, List.set_cons_zero, List.set_cons_succ, i64_w, i32_w]
            rfl
          refine pure_ (i := 9) (N := some 176) (v := ?_) (a' := ?_) #[false, true, true, true, false, true, true, false, true, true, false, false, false, false, false, false, false, false, false, false, false, false, false, false, false, false, false, false, false, false, false, false] rfl rfl (by kernel_rfl) (fun _ _ _ h => h) (Or.inl ⟨by rfl, ?_⟩) ?_ ?_
          rotate_left
          · intro w'
            go_simp
            with_reducible rfl
          rotate_left
          · simp only [Act.put, List.setIfInBounds_toArray, List.set_cons_zero, List.set_cons_succ, i64_w, i32_w]
            rfl
          refine pure_ (i := 11) (N := some 178) (v := ?_) (a' := ?_) #[false, true, true, true, false, true, true, false, true, true, false, true, false, false, false, false, false, false, false, false, false, false, false, false, false, false, false, false, false, false, false, false] rfl rfl (by kernel_rfl) (fun _ _ _ h => h) (Or.inl ⟨by rfl, ?_⟩) ?_ ?_
          rotate_left
          · intro w'
            go_simp
            with_reducible rfl
          rotate_left
          · simp only [Act.put, List.setIfInBounds_toArray, List.set_cons_zero, List.set_cons_succ, i64_w, i32_w]
            rfl
          refine pure_ (i := 12) (N := some 179) (v := ?_) (a' := ?_) #[false, true, true, true, false, true, true, false, true, true, false, true, true, false, false, false, false, false, false, false, false, false, false, false, false, false, false, false, false, false, false, false] rfl rfl (by kernel_rfl) (fun _ _ _ h => h) (Or.inl ⟨by rfl, ?_⟩) ?_ ?_
          rotate_left
          · intro w'
            go_simp
            with_reducible rfl
          rotate_left
          · simp only [Act.put, List.setIfInBounds_toArray, List.set_cons_zero, List.set_cons_succ, i64_w, i32_w]
            rfl
          refine pure_ (i := 15) (N := some 182) (v := ?_) (a' := ?_) #[false, true, true, true, false, true, true, false, true, true, false, true, true, false, false, true, false, false, false, false, false, false, false, false, false, false, false, false, false, false, false, false] rfl rfl (by kernel_rfl) (fun _ _ _ h => h) (Or.inl ⟨by rfl, ?_⟩) ?_ ?_
          rotate_left
          · intro w'
            go_simp
            with_reducible rfl
          rotate_left
          · simp only [Act.put, List.setIfInBounds_toArray, List.set_cons_zero, List.set_cons_succ, i64_w, i32_w]
            rfl
          refine pure_ (i := 16) (N := some 183) (v := ?_) (a' := ?_) #[false, true, true, true, false, true, true, false, true, true, false, true, true, false, false, true, true, false, false, false, false, false, false, false, false, false, false, false, false, false, false, false] rfl rfl (by kernel_rfl) (fun _ _ _ h => h) (Or.inl ⟨by rfl, ?_⟩) ?_ ?_
          rotate_left
          · intro w'
            go_simp
            with_reducible rfl
          rotate_left
          · simp only [Act.put, List.setIfInBounds_toArray, List.set_cons_zero, List.set_cons_succ, i64_w, i32_w]
            rfl
          refine pure_ (i := 18) (N := some 185) (v := ?_) (a' := ?_) #[false, true, true, true, false, true, true, false, true, true, false, true, true, false, false, true, true, false, true, false, false, false, false, false, false, false, false, false, false, false, false, false] rfl rfl (by kernel_rfl) (fun _ _ _ h => h) (Or.inl ⟨by rfl, ?_⟩) ?_ ?_
          rotate_left
          · intro w'
            go_simp
            with_reducible rfl
          rotate_left
          · simp only [Act.put, List.setIfInBounds_toArray, List.set_cons_zero, List.set_cons_succ, i64_w, i32_w]
            rfl
          refine pure_ (i := 21) (N := some 188) (v := ?_) (a' := ?_) #[false, true, true, true, false, true, true, false, true, true, false, true, true, false, false, true, true, false, true, false, false, true, false, false, false, false, false, false, false, false, false, false] rfl rfl (by kernel_rfl) (fun _ _ _ h => h) (Or.inl ⟨by rfl, ?_⟩) ?_ ?_
          rotate_left
          · intro w'
            go_simp
            with_reducible rfl
          rotate_left
          · simp only [Act.put, List.setIfInBounds_toArray, List.set_cons_zero, List.set_cons_succ, i64_w, i32_w]
            rfl
          refine pure_ (i := 22) (N := some 189) (v := ?_) (a' := ?_) #[false, true, true, true, false, true, true, false, true, true, false, true, true, false, false, true, true, false, true, false, false, true, true, false, false, false, false, false, false, false, false, false] rfl rfl (by kernel_rfl) (fun _ _ _ h => h) (Or.inl ⟨by rfl, ?_⟩) ?_ ?_
          rotate_left
          · intro w'
            go_simp
            with_reducible rfl
          rotate_left
          · simp only [Act.put, List.setIfInBounds_toArray, List.set_cons_zero, List.set_cons_succ, i64_w, i32_w]
            rfl
          refine pure_ (i := 24) (N := some 191) (v := ?_) (a' := ?_) #[false, true, true, true, false, true, true, false, true, true, false, true, true, false, false, true, true, false, true, false, false, true, true, false, true, false, false, false, false, false, false, false] rfl rfl (by kernel_rfl) (fun _ _ _ h => h) (Or.inl ⟨by rfl, ?_⟩) ?_ ?_
          rotate_left
          · intro w'
            go_simp
            with_reducible rfl
          rotate_left
          · simp only [Act.put, List.setIfInBounds_toArray, List.set_cons_zero, List.set_cons_succ, i64_w, i32_w]
            rfl
          refine pure_ (i := 25) (N := some 192) (v := ?_) (a' := ?_) #[false, true, true, true, false, true, true, false, true, true, false, true, true, false, false, true, true, false, true, false, false, true, true, false, true, true, false, false, false, false, false, false] rfl rfl (by kernel_rfl) (fun _ _ _ h => h) (Or.inl ⟨by rfl, ?_⟩) ?_ ?_
          rotate_left
          · intro w'
            go_simp
            with_reducible rfl
          rotate_left
          · simp only [Act.put, List.setIfInBounds_toArray, List.set_cons_zero, List.set_cons_succ, i64_w, i32_w]
            rfl
          refine pure_ (i := 27) (N := some 194) (v := ?_) (a' := ?_) #[false, true, true, true, false, true, true, false, true, true, false, true, true, false, false, true, true, false, true, false, false, true, true, false, true, true, false, true, false, false, false, false] rfl rfl (by kernel_rfl) (fun _ _ _ h => h) (Or.inl ⟨by rfl, ?_⟩) ?_ ?_
          rotate_left
          · intro w'
            go_simp
            with_reducible rfl
          rotate_left
          · simp only [Act.put, List.setIfInBounds_toArray, List.set_cons_zero, List.set_cons_succ, i64_w, i32_w]
            rfl
          refine pure_ (i := 28) (N := some 195) (v := ?_) (a' := ?_) #[false, true, true, true, false, true, true, false, true, true, false, true, true, false, false, true, true, false, true, false, false, true, true, false, true, true, false, true, true, false, false, false] rfl rfl (by kernel_rfl) (fun _ _ _ h => h) (Or.inl ⟨by rfl, ?_⟩) ?_ ?_
          rotate_left
          · intro w'
            go_simp
            with_reducible rfl
          rotate_left
          · simp only [Act.put, List.setIfInBounds_toArray, List.set_cons_zero, List.set_cons_succ, i64_w, i32_w]
            rfl
          refine take_ (i := 0) (N := some 167) (v := ?_) (a' := ?_) #[true, true, true, true, false, true, true, false, true, true, false, true, true, false, false, true, true, false, true, false, false, true, true, false, true, true, false, true, true, false, false, false] rfl rfl (by kernel_rfl) (fun _ _ _ h => h) (Or.inl ⟨by rfl, ?_⟩) hHeld ?_ ?_
          rotate_left
          · intro w' s0
            have kc := bcell s0
            go_simp
            with_reducible rfl
          rotate_left
          · simp only [Act.put, List.setIfInBounds_toArray, List.set_cons_zero, List.set_cons_succ, i64_w, i32_w]
            rfl
          refine take_ (i := 7) (N := some 174) (v := ?_) (a' := ?_) #[true, true, true, true, false, true, true, true, true, true, false, true, true, false, false, true, true, false, true, false, false, true, true, false, true, true, false, true, true, false, false, false] rfl rfl (by kernel_rfl) (fun _ _ _ h => h) (Or.inl ⟨by rfl, ?_⟩) hHeld ?_ ?_
          rotate_left
          · intro w' s0
            have kc := bcell s0
            go_simp
            with_reducible rfl
          rotate_left
          · simp only [Act.put, List.setIfInBounds_toArray, List.set_cons_zero, List.set_cons_succ, i64_w, i32_w]
            rfl
          refine take_ (i := 10) (N := some 177) (v := ?_) (a' := ?_) #[true, true, true, true, false, true, true, true, true, true, true, true, true, false, false, true, true, false, true, false, false, true, true, false, true, true, false, true, true, false, false, false] rfl rfl (by kernel_rfl) (fun _ _ _ h => h) (Or.inl ⟨by rfl, ?_⟩) hHeld ?_ ?_
          rotate_left
          · intro w' s0
            have kc := bcell s0
            go_simp
            with_reducible rfl
          rotate_left
          · simp only [Act.put, List.setIfInBounds_toArray, List.set_cons_zero, List.set_cons_succ, i64_w, i32_w]
            rfl
          refine take_ (i := 13) (N := some 180) (v := ?_) (a' := ?_) #[true, true, true, true, false, true, true, true, true, true, true, true, true, true, false, true, true, false, true, false, false, true, true, false, true, true, false, true, true, false, false, false] rfl rfl (by kernel_rfl) (fun _ _ _ h => h) (Or.inl ⟨by rfl, ?_⟩) hHeld ?_ ?_
          rotate_left
          · intro w' s0
            have kc := bcell s0
            go_simp
            with_reducible rfl
          rotate_left
          · simp only [Act.put, List.setIfInBounds_toArray, List.set_cons_zero, List.set_cons_succ, i64_w, i32_w]
            rfl
          refine take_ (i := 14) (N := some 181) (v := ?_) (a' := ?_) #[true, true, true, true, false, true, true, true, true, true, true, true, true, true, true, true, true, false, true, false, false, true, true, false, true, true, false, true, true, false, false, false] rfl rfl (by kernel_rfl) (fun _ _ _ h => h) (Or.inl ⟨by rfl, ?_⟩) hHeld ?_ ?_
          rotate_left
          · intro w' s0
            have kc := bcell s0
            go_simp
            with_reducible rfl
          rotate_left
          · simp only [Act.put, List.setIfInBounds_toArray, List.set_cons_zero, List.set_cons_succ, i64_w, i32_w]
            rfl
          refine take_ (i := 17) (N := some 184) (v := ?_) (a' := ?_) #[true, true, true, true, false, true, true, true, true, true, true, true, true, true, true, true, true, true, true, false, false, true, true, false, true, true, false, true, true, false, false, false] rfl rfl (by kernel_rfl) (fun _ _ _ h => h) (Or.inl ⟨by rfl, ?_⟩) hHeld ?_ ?_
          rotate_left
          · intro w' s0
            have kc := bcell s0
            go_simp
            with_reducible rfl
          rotate_left
          · simp only [Act.put, List.setIfInBounds_toArray, List.set_cons_zero, List.set_cons_succ, i64_w, i32_w]
            rfl
          refine pure_ (i := 19) (N := some 186) (v := ?_) (a' := ?_) #[true, true, true, true, false, true, true, true, true, true, true, true, true, true, true, true, true, true, true, true, false, true, true, false, true, true, false, true, true, false, false, false] rfl rfl (by kernel_rfl) (fun _ _ _ h => h) (Or.inl ⟨by rfl, ?_⟩) ?_ ?_
          rotate_left
          · intro w'
            go_simp
            with_reducible rfl
          rotate_left
          · simp only [Act.put, List.setIfInBounds_toArray, List.set_cons_zero, List.set_cons_succ, i64_w, i32_w]
            rfl
          refine take_ (i := 23) (N := some 190) (v := ?_) (a' := ?_) #[true, true, true, true, false, true, true, true, true, true, true, true, true, true, true, true, true, true, true, true, false, true, true, true, true, true, false, true, true, false, false, false] rfl rfl (by kernel_rfl) (fun _ _ _ h => h) (Or.inl ⟨by rfl, ?_⟩) hHeld ?_ ?_
          rotate_left
          · intro w' s0
            have kc := bcell s0
            go_simp
            with_reducible rfl
          rotate_left
          · simp only [Act.put, List.setIfInBounds_toArray, List.set_cons_zero, List.set_cons_succ, i64_w, i32_w]
            rfl
          refine take_ (i := 26) (N := some 193) (v := ?_) (a' := ?_) #[true, true, true, true, false, true, true, true, true, true, true, true, true, true, true, true, true, true, true, true, false, true, true, true, true, true, true, true, true, false, false, false] rfl rfl (by kernel_rfl) (fun _ _ _ h => h) (Or.inl ⟨by rfl, ?_⟩) hHeld ?_ ?_
          rotate_left
          · intro w' s0
            have kc := bcell s0
            go_simp
            with_reducible rfl
          rotate_left
          · simp only [Act.put, List.setIfInBounds_toArray, List.set_cons_zero, List.set_cons_succ, i64_w, i32_w]
            rfl
          refine take_ (i := 29) (N := some 196) (v := ?_) (a' := ?_) #[true, true, true, true, false, true, true, true, true, true, true, true, true, true, true, true, true, true, true, true, false, true, true, true, true, true, true, true, true, true, false, false] rfl rfl (by kernel_rfl) (fun _ _ _ h => h) (Or.inl ⟨by rfl, ?_⟩) hHeld ?_ ?_
          rotate_left
          · intro w' s0
            have kc := bcell s0
            go_simp
            with_reducible rfl
          rotate_left
          · simp only [Act.put, List.setIfInBounds_toArray, List.set_cons_zero, List.set_cons_succ, i64_w, i32_w]
            rfl
          refine one_ (i := 4) (N := some 171) #[true, true, true, true, true, true, true, true, true, true, true, true, true, true, true, true, true, true, true, true, false, true, true, true, true, true, true, true, true, true, false, false] rfl rfl (by kernel_rfl) (by decide) (fun K hK => ?_)
          refine goes_ Tryd.func154 (by kernel_rfl) rfl #[.agg #[.int .i64 32, .int .i64 64, .slice (some ⟨g2, 0, none⟩) 3 c2, .slice (some ⟨g3, 0, none⟩) 3 c3, .slice (some ⟨g4, 0, none⟩) 3 c4, .slice (some ⟨g5, 0, none⟩) 3 c5, .slice (some ⟨g6, 0, none⟩) 64 c6, .slice A7 n7 c7], .int .u64 P6] (by rfl) rfl rfl (by simp only [List.map_toArray, List.map_cons, List.map_nil]; rfl) ?_
          with_reducible refine (KC6.out _).mono ?_
          rintro e y1 ⟨rfl, hb_y1⟩
          refine ⟨_, rfl, ?_⟩
          have hq_y1 := hHeld.trans (hb_y1.mono hHeld.size)
          refine hK.out _ _ (hq_y1) (fun hHeld => ?_)
          clear hK K
          refine norm_ (a' := ?_) ?_ ?_
          rotate_left
          · show Act.put _ (some 171) _ = _
            simp only [Act.put, List.setIfInBounds_toArray, List.set_cons_zero, List.set_cons_succ, i64_w, i32_w]
            rfl
          refine one_ (i := 20) (N := some 187) #[true, true, true, true, true, true, true, true, true, true, true, true, true, true, true, true, true, true, true, true, true, true, true, true, true, true, true, true, true, true, false, false] rfl rfl (by kernel_rfl) (by decide) (fun K hK => ?_)
          refine goes_ Tryd.func154 (by kernel_rfl) rfl #[.agg #[.int .i64 32, .int .i64 64, .slice (some ⟨g2, 0, none⟩) 3 c2, .slice (some ⟨g3, 0, none⟩) 3 c3, .slice (some ⟨g4, 0, none⟩) 3 c4, .slice (some ⟨g5, 0, none⟩) 3 c5, .slice (some ⟨g6, 0, none⟩) 64 c6, .slice A7 n7 c7], .int .u64 P7] (by rfl) rfl rfl (by simp only [List.map_toArray, List.map_cons, List.map_nil]; rfl) ?_
          with_reducible refine (KC7.out _).mono ?_
          rintro e y2 ⟨rfl, hb_y2⟩
          refine ⟨_, rfl, ?_⟩
          have hq_y2 := hHeld.trans (hb_y2.mono hHeld.size)
          refine hK.out _ _ (hq_y2) (fun hHeld => ?_)
          clear hK K
          refine norm_ (a' := ?_) ?_ ?_
          rotate_left
          · show Act.put _ (some 187) _ = _
            simp only [Act.put, List.setIfInBounds_toArray, List.set_cons_zero, List.set_cons_succ, i64_w, i32_w]
            rfl
          refine last_ (i := 30) (N := some 197) #[true, true, true, true, true, true, true, true, true, true, true, true, true, true, true, true, true, true, true, true, true, true, true, true, true, true, true, true, true, true, true, false] rfl rfl (by kernel_rfl) (by decide) (fun K hK => ?_)
          refine value_ (w1 := ?_) (v := ?_) (by rfl) rfl ?_ ?_
          rotate_left 2
          · go_simp
            constructor
            · rfl
            · rfl
          refine hK.out _ _ ?_
          clear hK K
          refine norm_ (a' := ?_) ?_ ?_
          rotate_left
          · show Act.put _ (some 197) _ = _
            simp only [Act.put, List.setIfInBounds_toArray, List.set_cons_zero, List.set_cons_succ, i64_w, i32_w]
            rfl
          refine pure_ (i := 31) (N := some 10) (v := ?_) (a' := ?_) #[true, true, true, true, true, true, true, true, true, true, true, true, true, true, true, true, true, true, true, true, true, true, true, true, true, true, true, true, true, true, true, true] rfl rfl (by kernel_rfl) (fun _ _ _ h => h) (Or.inl ⟨by rfl, ?_⟩) ?_ ?_
          rotate_left
          · intro w'
            go_simp
            with_reducible rfl
          rotate_left
          · simp only [Act.put, List.setIfInBounds_toArray, List.set_cons_zero, List.set_cons_succ, i64_w, i32_w]
            rfl
          refine done_ (by kernel_rfl) ?_
          simp only [calmly]
          go_wp2
          refine ⟨⟨t + 1, N0, s0, s1, s2, N4, s4, s5, s6, rfl, by omega, own_lit y2 n0 135 .u64 (natsI [N0, s0, s1, s2, N4, s4, s5, s6]) (by have := hq_y2.size; have := HB2.out.size; omega) (by simp [natsI]), HB2.out.trans ((hq_y2.alloc hq_y2.size _).mono HB2.out.size), Lib.hid ⟨?_, ?_⟩⟩, by simp only [intOf]; omega⟩
          · rw [stepsN, ← HX.out.1, K32_at t hlt, ← HKt.out, ← HWt.out, HSD.out]
          · rw [← HSD.out]
            exact (stepN_ok [s0, s1, s2, s3, s4, s5, s6, s7] Kt Wt (fun i => by
              rw [List.getD_eq_getElem?_getD]
              cases h : [s0, s1, s2, s3, s4, s5, s6, s7][i]? with
              | none => simp
              | some y => exact HX.out.2 y (List.mem_of_getElem? h))).2
        · have hd : decide ((t : Int) < 64) = false := decide_eq_false (by omega)
          have ht64 : t = 64 := by omega
          subst ht64
          obtain ⟨fin, hfin⟩ : ∃ fin, fin = [s0, s1, s2, s3, s4, s5, s6, s7] := ⟨_, rfl⟩
          have hfl : fin.length = 8 := by rw [hfin]; rfl
          have hX := HX.out.1
          rw [← hfin] at hX
          rw [← hfin] at hown
          have hbel2 : Below n0 w wr := HBEL.out.trans (hb2.mono hn0w)
          have hne := own_ne hown hbx (by decide)
          have hflt : ∀ i, fin.getD i 0 < 4294967296 := fun i => by
            rw [hfin, List.getD_eq_getElem?_getD]
            cases h : [s0, s1, s2, s3, s4, s5, s6, s7][i]? with
            | none => simp
            | some y => exact HX.out.2 y (List.mem_of_getElem? h)
          have hslt0 : ∀ i, st0.getD i 0 < 4294967296 := fun i => by
            rw [List.getD_eq_getElem?_getD]
            cases h : st0[i]? with
            | none => simp
            | some y => exact HST.out.2 y (List.mem_of_getElem? h)
          have HXF := Lib.hid hX
          have HFL := Lib.hid hfl
          have HOW := Lib.hid hown
          have HBX3 := Lib.hid hbx
          have HBL := Lib.hid hbel2
          have HNE := Lib.hid hne
          have HFLT := Lib.hid hflt
          have HSLT := Lib.hid hslt0
          have HFIN := Lib.hid hfin
          clear hX hfl hown hbx hbel2 hne hflt hslt0 hfin hc hb2
          go_wp2
          clear p0 p1 p2 p3 p4 p5 p6 p7 q0 q1 q2 q3 q4 q5 q6 q7
          obtain ⟨wB, rfl⟩ : ∃ wB : World, wB = wr := ⟨_, rfl⟩
          go_loopw [17] (fun v17 w3 => ∃ (i : Nat), v17 = .int .i64 i ∧ i ≤ 8 ∧ w3.ownsRow n0 135 1 (.slice (some ⟨g10, 0, none⟩) 8 c10) 8 (nums .u64 (natsI (addUp fin st0 i))) ∧ WBox w3 n0 (some ⟨g2, 0, none⟩) (some ⟨g3, 0, none⟩) (some ⟨g4, 0, none⟩) (some ⟨g5, 0, none⟩) (some ⟨g6, 0, none⟩) A7 c2 c3 c4 c5 c6 c7 64 n7 ∧ Below n0 w w3) (fun v17 _ => 8 - (intOf v17).toNat)
          case atStart => exact ⟨0, rfl, by omega, by simpa [addUp] using HOW.out, HBX3.out, HBL.out⟩
          case round =>
            obtain ⟨i, rfl, hi, hown, hbx, hbel⟩ := hrel
            by_cases hlt : i < 8
            · have hd : decide ((i : Int) < 8) = true := decide_eq_true (by omega)
              have hI1 : (i : Int) < 8 := by omega
              have hI2 : (i : Int).toNat = i := Int.toNat_natCast _
              obtain ⟨q0, q1, q2, q3, q4, q5, q6, q7⟩ := hbx.cells
              have hc := (OwnU.cell hown i hlt)
              have p1 := hc.1
              rw [addUp_at _ _ _ HFL.out HST.out.1 hlt] at p1
              have hrs := (HS.out.below (HN.out ▸ hbel)).at_ (i : Int) (by omega) (by omega)
              obtain ⟨ad, had, p2⟩ := hrs
              cases had
              rw [hI2, add_plain] at p2
              have hrd : rd (natsI st0) (i : Int) = ((st0.getD i 0 : Nat) : Int) := by unfold rd; rw [hI2, natsI_getD]
              rw [hrd] at p2
              obtain ⟨U, hU⟩ : ∃ U, U = fin.getD i 0 := ⟨_, rfl⟩
              obtain ⟨V, hV⟩ : ∃ V, V = st0.getD i 0 := ⟨_, rfl⟩
              rw [← hU] at p1
              rw [← hV] at p2
              have lU : U < 4294967296 := hU ▸ HFLT.out i
              have lV : V < 4294967296 := hV ▸ HSLT.out i
              obtain ⟨P, hP⟩ : ∃ P, P = U + V := ⟨_, rfl⟩
              have z1 : IntKind.u64.wrap ((U : Int) + (V : Int)) = (P : Int) := by rw [IntKind.wrap_u64]; omega
              obtain ⟨Z, hZ⟩ : ∃ Z, Z = P % 4294967296 := ⟨_, rfl⟩
              have kC := fun w' => cut_calls (some ⟨g2, 0, none⟩) (some ⟨g3, 0, none⟩) (some ⟨g4, 0, none⟩) (some ⟨g5, 0, none⟩) (some ⟨g6, 0, none⟩) A7 c2 c3 c4 c5 c6 c7 64 n7 P (by omega) w'
              rw [← hZ] at kC
              have hset := addUp_set fin st0 i HFL.out HST.out.1 hlt
              rw [← hU, ← hV, ← hP, ← hZ] at hset
              have hg := (hown.lt g10 rfl).2
              have hb0 := hbx.lt
              have hgs : gs < wr.heap.size := World.block_lt_of_cell? wr ⟨gs, i, none⟩ p2
              have KC := Lib.hid kC
              have HSET := Lib.hid hset
              have HOW := Lib.hid hown
              have HBX := Lib.hid hbx
              have HBL := Lib.hid hbel
              clear hset hown hbx hbel hU hV hP hZ kC hc hrd lU lV
              go_wp2
              refine wp_region_baseS (W0 := wr) (Below.refl _ wr) 14 _ rfl rfl (by kernel_rfl) (by kernel_rfl) (by kernel_rfl) (by kernel_rfl) ?_
              simp only [List.take_succ_cons, List.take_zero]
              repeat (first
                | (refine wpQuietIn_go (v := ?_) (a' := ?_) rfl (fun _ => trivial) (fun w' hC => qval ?_) rfl ?_ ?_; rotate_left; rotate_left; (have kc := bcell hC; go_simp; with_reducible rfl); (simp only [Act.put, List.setIfInBounds_toArray, List.set_cons_zero, List.set_cons_succ, i64_w, i32_w]; rfl))
                | (refine wpQuietIn_go (v := .int .u64 (Z : Nat)) (a' := ?_) rfl (fun _ => trivial) (fun w' hC => bqcall 154 #[.agg #[.int .i64 32, .int .i64 64, .slice (some ⟨g2, 0, none⟩) 3 c2, .slice (some ⟨g3, 0, none⟩) 3 c3, .slice (some ⟨g4, 0, none⟩) 3 c4, .slice (some ⟨g5, 0, none⟩) 3 c5, .slice (some ⟨g6, 0, none⟩) 64 c6, .slice A7 n7 c7], .int .u64 P] ?_ hC (KC.out w')) rfl ?_ ?_; rotate_left; go_simp; (simp only [Act.put, List.setIfInBounds_toArray, List.set_cons_zero, List.set_cons_succ, i64_w, i32_w]; rfl)))
              refine wpQuietIn_nil ?_
              intro w' hC
              have ho := pw_own_below HOW.out hC
              have hc2 := OwnU.cell ho i hlt
              have e1 := hc2.1
              have e2 := hc2.2
              refine wpIn_skip (fun _ e => by cases e) (fun _ => trivial) rfl (w1 := w'.setCell ⟨g10, i, none⟩ (.int .u64 (Z : Nat))) (by go_simp) ?_
              clear hc2 e1 e2
              have hst := (own_store ho (i : Int) (Z : Int)).1
              rw [hI2, natsI_set, HSET.out] at hst
              have HST2 := Lib.hid hst
              have HC := Lib.hid hC
              clear hst ho hC
              go_wp2
              have hgn : g10 ≠ n0 := fun e => HNE.out (by rw [← e]; rfl)
              refine ⟨⟨i + 1, rfl, by omega, HST2.out, ?_, ?_⟩, by simp only [intOf]; omega⟩
              · exact (Below.heap_setCell _ _ _ _ (show n0 ≠ g10 from fun e => hgn e.symm)).trans ((HC.out.block n0 hb0).trans HBX.out)
              · exact (HBL.out.trans (HC.out.mono (by have := HBL.out.size; have := HN.out; omega))).setCell (p := ⟨g10, i, none⟩) (own_base HOW.out g10 rfl) _
            · have hd : decide ((i : Int) < 8) = false := decide_eq_false (by omega)
              have hi8 : i = 8 := by omega
              subst hi8
              rw [addUp_8 _ _ HFL.out HST.out.1] at hown
              have hbl : (fin.zip st0).map (fun p => (p.1 + p.2) % 4294967296) = blockN st0 (words l) := by rw [HXF.out, HWS.out]; rfl
              rw [hbl] at hown
              have hlen := (blockN_ok st0 (words l) HST.out).1
              have HOW := Lib.hid hown
              have HBL := Lib.hid hbel
              have HLN := Lib.hid hlen
              clear hown hbl hbel hbx hlen
              go_wp2
              go_ret
              refine ⟨g10, c10, rfl, ?_, ?_⟩
              · unfold OwnU; rw [HLN.out, HN.out]; exact HOW.out
              · rw [HN.out]; exact HBL.out
end Go.Proofs.YtoeibcdnhglobaaDoor.P
