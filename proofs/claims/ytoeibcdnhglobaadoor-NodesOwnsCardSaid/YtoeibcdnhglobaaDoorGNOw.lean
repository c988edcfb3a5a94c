/- pantilelaw15.NodesOwns: the walk. -/
import Derived.Test.YtoeibcdnhglobaaDoorGNJ
namespace Go.Proofs.YtoeibcdnhglobaaDoor.P
set_option linter.unusedVariables false
set_option linter.unusedSimpArgs false
open Go.RowKit Go.Shelf Go.Proofs.YtoeibcdnhglobaaDoorW.PrintWords Go.Proofs.YtoeibcdnhglobaaDoorW.PrintLast Go.Proofs.YtoeibcdnhglobaaDoorW.PrintMore
open Go.Proofs.YtoeibcdnhglobaaDoor.Pure

set_option maxRecDepth 100000 in
set_option maxHeartbeats 8000000 in
theorem NodesOwns_calls (A : Option Addr) (c : Nat) (ps : List Part) (n : Int) (w : World) (h : Leaves w A ps) (hT : PowTab w) (hG : GlobH w) (hn0 : -9223372036854775808 ≤ n) (hn1 : n ≤ 9223372036854775807) :
    Calls Tryd.prog 18 #[.slice A ps.length c, .int .i64 n] w fun e w' => e = .returned (.bool true) ∧ Below w.heap.size w w' := by
  have kH : Calls Tryd.prog 46 #[.slice A ps.length c, .int .i64 20] w _ := hashes_of A c ps 20 (by omega) w h
  have hlen := hash10_len ps 20
  have hsz := hash10_sz ps 20
  generalize hash10 ps 20 = L at *
  have hN40 : L.length ≤ 40 := by omega
  have hNb : (L.length : Int) ≤ 20 := by omega
  have g1 : (1 : Int) ≤ (L.length : Int) + 1 := by omega
  obtain ⟨r, hr, hcs⟩ := brought n L.length
  have kT := take_at L r hr
  have kD := drop_at L r hr
  have kP := peaks_at L r hr hN40 hsz
  have kL := fun (W : World) (hW : Below w.heap.size w W) => lives15_calls W (hT.below hW) (hG.below hW)
  have hrI : (r : Int) ≤ 20 := by omega
  have hrL : (r : Int) ≤ (L.length : Int) := by omega
  have kG := fun A1 A2 c1 c2 (W : World) (hW : Below w.heap.size w W) hp hR => grow_at L r hr hN40 hsz A1 A2 c1 c2 W hp hR (hT.below hW) (hG.below hW)
  have kE := fun (A0 A1 : Option Addr) (c0 c1 : Nat) (W : World) h0 h1 => Same_calls A0 A1 c0 c1 (pkN L r) W h0 h1
  have kF := fun (A0 A1 : Option Addr) (c0 c1 : Nat) (W : World) h0 h1 => Same_calls A0 A1 c0 c1 L W h0 h1
  have hpl := pkN_len L L.length (by omega)
  have hpc : pc L.length ≤ 6 := pc_le 6 L.length
  have hP6 : (pkN L L.length).length ≤ 6 := by rw [hpl]; exact hpc
  have hb16 : (([] : List ByteArray).length + L.length) * 16 ≤ 140737488355328 := by rw [List.length_nil]; omega
  clear hpl hpc hlen h hT hG hsz hN40 hr
  generalize grownL L r (L.length - r) = G at *
  generalize pkN L L.length = P at *
  generalize pkN L r = T at *
  generalize L.drop r = D at *
  rcases hcs with ⟨d1, g3, hre⟩ | ⟨d1, g3, hre⟩
  all_goals
    go_enter Tryd.func18, Tryd.ntmps18
    go_wp2_with (first
      | (go_at_call 46; go_loud (with_reducible refine kH.mono ?_; rintro e w1 ⟨A1, c1, rfl, hc1, _, hr1, hb1⟩; have hcutT := kT A1 c1 hc1; obtain ⟨A', hcutD, hD⟩ := kD A1 c1 hc1; clear kT kD kH))
      | (go_at_call 65; go_loud (first
        | (with_reducible refine (kP A1 c1 _ hc1 hr1).mono ?_; rintro e w2 ⟨B, k, rfl, ho2, hb2⟩; have hr2 := hr1.below hb2; have hB2 := hb1.trans (hb2.mono hb1.size); clear hr1)
        | (with_reducible refine (kP A1 c1 _ hc1 hr2).mono ?_; rintro e w3 ⟨B3, k3, rfl, ho3, hb3⟩; have hr3 := hr2.below hb3; have hT3 := pw_own_below ho2 hb3; have hB3 := hB2.trans (hb3.mono hB2.size); clear hr2 ho2)))
      | (at_builtin; go_loud (refine print_append_row_of (w0 := w3) Value.string ByteArray.empty w3.heap.size rfl _ _ 22 9 (.string ⟨#[]⟩) 16 rfl Tryd.underlying22 inf9 rfl (by decide) (fun _ => rfl) (.slice none 0 0) [] L A1 L.length c1 rfl rfl (own_nil _ _ _ _) hr3 (Below.refl _ _) (Nat.le_refl _) hb16 ?_; intro v4 w4 hown4 hb4 _ _; rw [List.nil_append] at hown4; obtain ⟨B4, k4, rfl⟩ := own_slice hown4; have hr4 := hr3.below hb4; have hT4 := pw_own_below hT3 hb4; have hU4 := pw_own_below ho3 hb4; have hB4 := hB3.trans (hb4.mono hB3.size); clear hr3 hT3 ho3))
      | (go_at_call 66; go_loud (with_reducible refine (kG _ _ _ _ _ hB4 (StrRow.of_own hT4) (hD _ hr4)).mono ?_; rintro e w5 ⟨B1, k1, B2, k2, rfl, _, hP5, hb5⟩)))
    go_loopw [11] (fun v11 wr => ∃ (i : Nat) (ys : List Value), v11 = .int .i64 i ∧ i ≤ P.length ∧ wr.ownsRow w4.heap.size 9 1 (.slice B2 P.length k2) P.length ys ∧ Below w4.heap.size w4 wr) (fun v11 _ => P.length - (intOf v11).toNat)
    case atStart => exact ⟨0, _, rfl, by omega, hP5, hb5⟩
    case round =>
      obtain ⟨i, ys, rfl, hi, hop, hbl⟩ := hrel
      by_cases hlt : i < P.length
      · have hdd : decide ((i : Int) < (P.length : Int)) = true := decide_eq_true (by omega)
        have hiI : (i : Int) < (P.length : Int) := by omega
        have hPI : (P.length : Int) ≤ 6 := by omega
        obtain ⟨g, cp, he, _⟩ := World.ownsRow.form hop (by omega)
        simp only [Value.slice.injEq] at he
        obtain ⟨rfl, _, rfl⟩ := he
        have hgb := own_base hop g rfl
        have hlen := hop.1
        have hcell := hop.cellAt i (by omega)
        have hfz := hop.frozenAt i
        rw [List.getElem?_eq_getElem (by omega)] at hcell
        have hst := hop.stored i (.string ⟨#[120]⟩)
        have hbs := hbl.setCell (p := ⟨g, i, none⟩) hgb (.string ⟨#[120]⟩)
        clear hop hbl kE kF kL kG hr4 hT4 hU4 hown4 hP5 hb5
        go_wp2
        exact ⟨⟨i + 1, _, by go_num, by omega, hst.1, hbs⟩, by simp only [intOf]; omega⟩
      · have hdd : decide ((i : Int) < (P.length : Int)) = false := decide_eq_false (by omega)
        have hr6 := hr4.below hbl
        have hT6 := (own_reads_of' (d := ByteArray.empty) hT4).below hbl
        have hU6 := (own_reads_of' (d := ByteArray.empty) hU4).below hbl
        have hA6 := (own_reads_of' (d := ByteArray.empty) hown4).below hbl
        have hB6 := hB4.trans (hbl.mono hB4.size)
        clear hop hbl hr4 hT4 hU4 hown4 hP5 hb5
        go_wp2_with (first
          | (go_at_call 34; go_loud (first
            | (with_reducible refine (kE _ _ _ _ _ hT6 hU6).mono ?_; rintro e w7 ⟨rfl, hb7⟩; have hr7 := hr6.below hb7; have hA7 := hA6.below hb7; have hB7 := hB6.trans (hb7.mono hB6.size); clear kE hT6 hU6 hr6 hA6)
            | (with_reducible refine (kF _ _ _ _ _ hr7 hA7).mono ?_; rintro e w8 ⟨rfl, hb8⟩; have hB8 := hB7.trans (hb8.mono hB7.size); clear kF hr7 hA7)))
          | (go_at_call 69; go_loud (with_reducible refine (kL _ hB8).mono ?_; rintro e w9 ⟨rfl, hb9⟩)))
        go_ret
        exact ⟨rfl, hB8.trans (hb9.mono hB8.size)⟩
end Go.Proofs.YtoeibcdnhglobaaDoor.P
