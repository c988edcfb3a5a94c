/- pantilelaw15.NodesGrow: the walk. -/
import Derived.Test.YtoeibcdnhglobaaDoorGNJ
namespace Go.Proofs.YtoeibcdnhglobaaDoor.P
set_option linter.unusedVariables false
set_option linter.unusedSimpArgs false
open Go.RowKit Go.Shelf Go.Proofs.YtoeibcdnhglobaaDoorW.PrintWords Go.Proofs.YtoeibcdnhglobaaDoorW.PrintLast Go.Proofs.YtoeibcdnhglobaaDoorW.PrintMore
open Go.Proofs.YtoeibcdnhglobaaDoor.Pure

set_option maxRecDepth 100000 in
set_option maxHeartbeats 8000000 in
theorem NodesGrow_calls (A : Option Addr) (c : Nat) (ps : List Part) (n : Int) (w : World) (h : Leaves w A ps) (hT : PowTab w) (hG : GlobH w) (hn0 : -9223372036854775808 ≤ n) (hn1 : n ≤ 9223372036854775807) :
    Calls Tryd.prog 17 #[.slice A ps.length c, .int .i64 n] w fun e w' => e = .returned (.bool true) ∧ Below w.heap.size w w' := by
  have kH : Calls Tryd.prog 46 #[.slice A ps.length c, .int .i64 30] w _ := hashes_of A c ps 30 (by omega) w h
  have hlen := hash10_len ps 30
  have hsz := hash10_sz ps 30
  generalize hash10 ps 30 = L at *
  have hN40 : L.length ≤ 40 := by omega
  have hNb : (L.length : Int) ≤ 30 := by omega
  have g1 : (1 : Int) ≤ (L.length : Int) + 1 := by omega
  obtain ⟨r, hr, hcs⟩ := brought n L.length
  have kT := take_at L r hr
  have kD := drop_at L r hr
  have kP := peaks_at L r hr hN40 hsz
  have kL := fun (W : World) (hW : Below w.heap.size w W) => lives15_calls W (hT.below hW) (hG.below hW)
  have hrI : (r : Int) ≤ 30 := by omega
  have hrL : (r : Int) ≤ (L.length : Int) := by omega
  have kA := peaks_at L L.length (Nat.le_refl _) hN40 hsz
  have kG := fun A1 A2 c1 c2 (W : World) (hW : Below w.heap.size w W) hp hR => grow_at L r hr hN40 hsz A1 A2 c1 c2 W hp hR (hT.below hW) (hG.below hW)
  have kR := rgrow_at L r hr hN40 hsz
  have hgl := grownL_len L r (L.length - r)
  have kS := fun (A0 A1 : Option Addr) (c0 c1 : Nat) (W : World) h0 h1 => Same15_calls A0 A1 c0 c1 (grownL L r (L.length - r)) (by omega) W h0 h1
  have kE := fun (A0 A1 : Option Addr) (c0 c1 : Nat) (W : World) h0 h1 => Same_calls A0 A1 c0 c1 (pkN L L.length) W h0 h1
  have hpl := pkN_len L r (by omega)
  have hpc : pc r ≤ 6 := pc_le 6 r
  have kW := NGrow_wrong r ((pkN L r).length + 1) (by omega) (by rw [hpl]; omega)
  have hb16 : ((pkN L r).length + 1) * 16 ≤ 140737488355328 := by omega
  clear hpl hpc hgl hlen h hT hG hsz hN40 hr
  generalize grownL L r (L.length - r) = G at *
  generalize pkN L L.length = P at *
  generalize pkN L r = T at *
  generalize L.drop r = D at *
  rcases hcs with ⟨d1, g3, hre⟩ | ⟨d1, g3, hre⟩
  all_goals
    go_enter Tryd.func17, Tryd.ntmps17
    go_wp2_with (first
      | (go_at_call 46; go_loud (with_reducible refine kH.mono ?_; rintro e w1 ⟨A1, c1, rfl, hc1, _, hr1, hb1⟩; have hcutT := kT A1 c1 hc1; obtain ⟨A', hcutD, hD⟩ := kD A1 c1 hc1; clear kT kD kH))
      | (go_at_call 65; go_loud (first
        | (with_reducible refine (kP A1 c1 _ hc1 hr1).mono ?_; rintro e w2 ⟨B, k, rfl, ho2, hb2⟩; have hr2 := hr1.below hb2; have hB2 := hb1.trans (hb2.mono hb1.size); clear kP)
        | (with_reducible refine (kA A1 c1 _ hc1 hr5).mono ?_; rintro e w6 ⟨B6, k6, rfl, ho6, hb6⟩; have hP6 := (own_reads_of' (d := ByteArray.empty) hP5).below hb6; have hT6 := pw_own_below hT5 hb6; have hB6 := hB5.trans (hb6.mono hB5.size); clear kA hr5 hP5 hT5 hB5)))
      | (go_at_call 66; go_loud (first
        | (with_reducible refine (kG _ _ _ _ _ hB2 (StrRow.of_own ho2) (hD _ hr2)).mono ?_; rintro e w3 ⟨B1, k1, B2, k2, rfl, hE3, hP3, hb3⟩; have hr3 := hr2.below hb3; have hT3 := pw_own_below ho2 hb3; have hB3 := hB2.trans (hb3.mono hB2.size); clear kG hr2 ho2)
        | (with_reducible refine (kW _ _ _ _).mono ?_; rintro e w' ⟨rfl, hw'⟩; rw [hw']; clear hw' w')))
      | (go_at_call 68; go_loud (with_reducible refine (kR A1 c1 _ hc1 hr3).mono ?_; rintro e w4 ⟨B4, k4, rfl, hE4, hb4⟩; have hr4 := hr3.below hb4; have hT4 := pw_own_below hT3 hb4; have hP4 := pw_own_below hP3 hb4; have hF4 := EntRow.of_own (pw_own_below hE3 hb4); have hB4 := hB3.trans (hb4.mono hB3.size); clear kR hr3 hT3 hP3 hE3))
      | (go_at_call 67; go_loud (with_reducible refine (kS _ _ _ _ _ hF4 hE4).mono ?_; rintro e w5 ⟨rfl, hb5⟩; have hr5 := hr4.below hb5; have hT5 := pw_own_below hT4 hb5; have hP5 := pw_own_below hP4 hb5; have hB5 := hB4.trans (hb5.mono hB4.size); clear kS hr4 hT4 hP4 hF4 hE4))
      | (go_at_call 34; go_loud (with_reducible refine (kE _ _ _ _ _ hP6 (own_reads_of' (d := ByteArray.empty) ho6)).mono ?_; rintro e w7 ⟨rfl, hb7⟩; have hT7 := own_weaken (pw_own_below hT6 hb7) hb1.size; have hB7 := hB6.trans (hb7.mono hB6.size); clear kE hP6 ho6 hT6))
      | (at_builtin; go_loud (refine print_append_of (w0 := w) Value.string w.heap.size rfl _ _ 22 9 (.string ⟨#[]⟩) 16 rfl Tryd.underlying22 inf9 rfl (by decide) (.slice B T.length k) T ⟨#[120]⟩ rfl rfl rfl hT7 hB7 hB7.size hb16 ?_; intro v8 w8 hown8 hB8 _ _; obtain ⟨B8, k8, rfl⟩ := own_slice hown8; clear hT7 hB7))
      | (go_at_call 69; go_loud (with_reducible refine (kL _ hB8).mono ?_; rintro e w9 ⟨rfl, hb9⟩)))
    go_ret
    exact ⟨rfl, hB8.trans (hb9.mono hB8.size)⟩
end Go.Proofs.YtoeibcdnhglobaaDoor.P
