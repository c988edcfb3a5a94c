-- Written by a program (wip/tools/shared.sh) over the kit's own print of the loaded functions.
import Derived.Test.YtoeibcdnhglobaaPx0
import Derived.Test.YtoeibcdnhglobaaPx1
import Derived.Test.YtoeibcdnhglobaaPx2
import Derived.Test.YtoeibcdnhglobaaPx3
import Derived.Test.YtoeibcdnhglobaaGAll
import Derived.Test.YtoeibcdnhglobaaGLives
namespace Go.Proofs.Ytoeibcdnhglobaa.P
open Go.RowKit Go.Proofs.YtoeibcdnhglobaaW.PrintWords Go.Proofs.YtoeibcdnhglobaaW.PrintLast Go.Proofs.YtoeibcdnhglobaaW.PrintMore
attribute [local go_sem] max2_int min2_int max_two min_two max_three min_three max_four min_four   -- for this text's walks alone
set_option linter.unusedVariables false
set_option linter.unusedSimpArgs false

attribute [local go_sem high] eqA30
/-! ### pantilelaw12_TilesAll: function 3 -/
def pantilelaw12_TilesAll.f (k : Nat) (a0 : Int) (a1 : Int) (a2 : Int) : Option (Bool) := (pantilelaw12_small.f a0).bind fun t122 => ((tiles_All.f t122).bind fun t123 => ((pantileref12_All.f k t122).bind fun t126 => ((pantileref12_Same.f k t123 t126).bind fun t129 => (if t129 = true then ((tiles_Width.f t122 a1 a2).bind fun t130 => ((pantileref12_Width.f k t122 a1 a2).bind fun t131 => (if t130 = t131 then ((pantilelaw12_lives.f).bind fun t132 => (some t132)) else (some false)))) else (some false)))))
theorem pantilelaw12_TilesAll.mono : ∀ a0 a1 a2 k, LeO (pantilelaw12_TilesAll.f k a0 a1 a2) (pantilelaw12_TilesAll.f (k + 1) a0 a1 a2) := by
 intro a0 a1 a2 k
 unfold pantilelaw12_TilesAll.f
 repeat' first
   | (with_reducible exact pantileref12_All.mono _ _)
   | (with_reducible exact pantileref12_Same.mono _ _ _)
   | (with_reducible exact pantileref12_Width.mono _ _ _ _)
   | (with_reducible exact LeO.refl _)
   | (with_reducible exact LeO.none _)
   | (with_reducible refine LeO.ite ?_ ?_)
   | (with_reducible refine LeO.bind ?_ (fun _ => ?_))
   | exact pantileref12_All.mono _ _
   | exact pantileref12_Same.mono _ _ _
   | exact pantileref12_Width.mono _ _ _ _
   | exact LeO.none _
   | refine LeO.ite ?_ ?_
   | refine LeO.bind ?_ (fun _ => ?_)
set_option maxHeartbeats 8000000 in
set_option maxRecDepth 100000 in
theorem pantilelaw12_TilesAll.calls (k : Nat) (a0 : Int) (a1 : Int) (a2 : Int) (r : Bool) (w : World) (h : pantilelaw12_TilesAll.f k a0 a1 a2 = some r) :
  Calls Try.prog 3 #[.int .i64 a0, .int .i64 a1, .int .i64 a2] w fun e w' => e = .returned (.bool r) ∧ Below w.heap.size w w' := by
 have HB := Aside0.mk (Below.refl w.heap.size w)
 have H : ((pantilelaw12_small.f a0).bind fun t122 => ((tiles_All.f t122).bind fun t123 => ((pantileref12_All.f k t122).bind fun t126 => ((pantileref12_Same.f k t123 t126).bind fun t129 => (if t129 = true then ((tiles_Width.f t122 a1 a2).bind fun t130 => ((pantileref12_Width.f k t122 a1 a2).bind fun t131 => (if t130 = t131 then ((pantilelaw12_lives.f).bind fun t132 => (some t132)) else (some false)))) else (some false)))))) = some r := h
 clear h
 replace H := Option.bind_eq_some_iff.mp H
 obtain ⟨t122, A40, H⟩ := H
 replace H : ((tiles_All.f t122).bind fun t123 => ((pantileref12_All.f k t122).bind fun t126 => ((pantileref12_Same.f k t123 t126).bind fun t129 => (if t129 = true then ((tiles_Width.f t122 a1 a2).bind fun t130 => ((pantileref12_Width.f k t122 a1 a2).bind fun t131 => (if t130 = t131 then ((pantilelaw12_lives.f).bind fun t132 => (some t132)) else (some false)))) else (some false))))) = some r := H
 have A4 := Aside0.mk A40
 clear A40
 replace H := Option.bind_eq_some_iff.mp H
 obtain ⟨t123, A50, H⟩ := H
 replace H : ((pantileref12_All.f k t122).bind fun t126 => ((pantileref12_Same.f k t123 t126).bind fun t129 => (if t129 = true then ((tiles_Width.f t122 a1 a2).bind fun t130 => ((pantileref12_Width.f k t122 a1 a2).bind fun t131 => (if t130 = t131 then ((pantilelaw12_lives.f).bind fun t132 => (some t132)) else (some false)))) else (some false)))) = some r := H
 have A5 := Aside0.mk A50
 clear A50
 replace H := Option.bind_eq_some_iff.mp H
 obtain ⟨t126, A60, H⟩ := H
 replace H : ((pantileref12_Same.f k t123 t126).bind fun t129 => (if t129 = true then ((tiles_Width.f t122 a1 a2).bind fun t130 => ((pantileref12_Width.f k t122 a1 a2).bind fun t131 => (if t130 = t131 then ((pantilelaw12_lives.f).bind fun t132 => (some t132)) else (some false)))) else (some false))) = some r := H
 have A6 := Aside0.mk A60
 clear A60
 replace H := Option.bind_eq_some_iff.mp H
 obtain ⟨t129, A70, H⟩ := H
 replace H : (if t129 = true then ((tiles_Width.f t122 a1 a2).bind fun t130 => ((pantileref12_Width.f k t122 a1 a2).bind fun t131 => (if t130 = t131 then ((pantilelaw12_lives.f).bind fun t132 => (some t132)) else (some false)))) else (some false)) = some r := H
 have A7 := Aside0.mk A70
 clear A70
 by_cases c8 : t129 = true
 ·subst c8
  have H1 : ((tiles_Width.f t122 a1 a2).bind fun t130 => ((pantileref12_Width.f k t122 a1 a2).bind fun t131 => (if t130 = t131 then ((pantilelaw12_lives.f).bind fun t132 => (some t132)) else (some false)))) = some r := by rw [if_pos rfl] at H; exact H
  clear H
  have H := H1
  clear H1
  replace H := Option.bind_eq_some_iff.mp H
  obtain ⟨t130, A90, H⟩ := H
  replace H : ((pantileref12_Width.f k t122 a1 a2).bind fun t131 => (if t130 = t131 then ((pantilelaw12_lives.f).bind fun t132 => (some t132)) else (some false))) = some r := H
  have A9 := Aside0.mk A90
  clear A90
  replace H := Option.bind_eq_some_iff.mp H
  obtain ⟨t131, A100, H⟩ := H
  replace H : (if t130 = t131 then ((pantilelaw12_lives.f).bind fun t132 => (some t132)) else (some false)) = some r := H
  have A10 := Aside0.mk A100
  clear A100
  by_cases c11 : t130 = t131
  ·rw [if_pos c11] at H
   have c11b0 : (t130 == t131) = true := beq_iff_eq.mpr c11
   have c11b1 : (t130 != t131) = false := bne_eq_false_iff_eq.mpr c11
   clear c11
   replace H := Option.bind_eq_some_iff.mp H
   obtain ⟨t132, A120, H⟩ := H
   replace H : (some t132) = some r := H
   have A12 := Aside0.mk A120
   clear A120
   obtain rfl := Option.some.inj H
   go_enter Try.func3, Try.ntmps3
   go_wp2_with (first | ((with_reducible refine gate_callee (f := 8) rfl ?_); refine goesL_ (some 9) rfl rfl Try.func8 (by kernel_rfl) rfl #[.int .i64 a0] rfl (by (try simp only [List.map_toArray, List.map_cons, List.map_nil]); first | done | rfl | (simp only [List.length_drop, List.length_take]; rfl)) ?_; (with_reducible refine (pantilelaw12_small.calls a0 t122 _ A4.out).mono ?_); rintro e w' ⟨rfl, ⟨nd, rfl⟩⟩; refine ⟨_, rfl, ?_⟩) | ((with_reducible refine gate_callee (f := 10) rfl ?_); refine goesL_ (some 11) rfl rfl Try.func10 (by kernel_rfl) rfl #[.int .i64 t122] rfl (by (try simp only [List.map_toArray, List.map_cons, List.map_nil]); first | done | rfl | (simp only [List.length_drop, List.length_take]; rfl)) ?_; (with_reducible refine (tiles_All.calls t122 t123 _ A5.out).mono ?_); rintro e w13 ⟨v124, rfl, ho0, hb⟩; refine ⟨_, rfl, ?_⟩; have n0_ := Aside0.mk (Kd.R_lower ho0 (below_size (by repeat (first | (with_reducible first | exact HB.out | apply below_alloc | apply pw_below_drewN | apply below_drew1) | exact HB.out)))); have n1_ := Aside0.mk (below_step (by repeat (first | (with_reducible first | exact HB.out | apply below_alloc | apply pw_below_drewN | apply below_drew1) | exact HB.out)) hb); clear HB; have HO125 := n0_; have HB := n1_; clear n0_ n1_; (try clear hb); (try clear hb2); (try clear hk); (try clear hi); (try clear ho0)) | ((with_reducible refine gate_callee (f := 11) rfl ?_); refine goesL_ (some 13) rfl rfl Try.func11 (by kernel_rfl) rfl #[.int .i64 t122] rfl (by (try simp only [List.map_toArray, List.map_cons, List.map_nil]); first | done | rfl | (simp only [List.length_drop, List.length_take]; rfl)) ?_; (with_reducible refine (pantileref12_All.calls k t122 t126 _ A6.out).mono ?_); rintro e w14 ⟨v127, rfl, ho0, hb⟩; refine ⟨_, rfl, ?_⟩; have n0_ := Aside0.mk (Kd.R_elder' (by (with_reducible repeat (first | apply Kd.R_alloc | apply Kd.R_drewN | apply Kd.R_drew)); exact HO125.out) (Kd.R_base ho0) hb); have n1_ := Aside0.mk (Kd.R_lower (Kd.R_new' ho0 (Kd.R_lt (by (with_reducible repeat (first | apply Kd.R_alloc | apply Kd.R_drewN | apply Kd.R_drew)); exact HO125.out))) (below_size (by repeat (first | (with_reducible first | exact HB.out | apply below_alloc | apply pw_below_drewN | apply below_drew1) | exact HB.out)))); have n2_ := Aside0.mk (below_step (by repeat (first | (with_reducible first | exact HB.out | apply below_alloc | apply pw_below_drewN | apply below_drew1) | exact HB.out)) hb); clear HO125; clear HB; have HO125 := n0_; have HO128 := n1_; have HB := n2_; clear n0_ n1_ n2_; (try clear hb); (try clear hb2); (try clear hk); (try clear hi); (try clear ho0); obtain ⟨Ao15, co15, eo15⟩ := Kd.R_slice HO125.out; subst eo15; obtain ⟨Ao16, co16, eo16⟩ := Kd.R_slice HO128.out; subst eo16) | ((with_reducible refine gate_callee (f := 9) rfl ?_); refine goesL_ (some 14) rfl rfl Try.func9 (by kernel_rfl) rfl #[.slice Ao15 t123.length co15, .slice Ao16 t126.length co16] rfl (by (try simp only [List.map_toArray, List.map_cons, List.map_nil]); first | done | rfl | (simp only [List.length_drop, List.length_take]; rfl)) ?_; (with_reducible refine (pantileref12_Same.calls k _ _ t123 _ _ t126 true _ ?side1 ?side2 ?side3 ?side4 A7.out).mono ?_); (case side1 => repeat (first | exact (Kd.R_reads' HO125.out).2.2 | (with_reducible refine Kd.C_alloc ?_ _) | (with_reducible refine Kd.C_drewN ?_ _) | (with_reducible refine Kd.C_drew ?_))); (case side2 => exact (Kd.R_reads' HO125.out).2.1); (case side3 => repeat (first | exact (Kd.R_reads' HO128.out).2.2 | (with_reducible refine Kd.C_alloc ?_ _) | (with_reducible refine Kd.C_drewN ?_ _) | (with_reducible refine Kd.C_drew ?_))); (case side4 => exact (Kd.R_reads' HO128.out).2.1); rintro e w' ⟨rfl, ⟨nd, rfl⟩⟩; refine ⟨_, rfl, ?_⟩) | (go_at_call 12; (with_reducible refine (tiles_Width.calls t122 a1 a2 t130 _ A9.out).mono ?_); rintro e w' ⟨rfl, ⟨nd, rfl⟩⟩) | (go_at_call 13; (with_reducible refine (pantileref12_Width.calls k t122 a1 a2 t131 _ A10.out).mono ?_); rintro e w' ⟨rfl, ⟨nd, rfl⟩⟩) | (go_at_call 14; (with_reducible refine (pantilelaw12_lives.calls  t132 _ A12.out).mono ?_); rintro e w17 ⟨rfl, hb⟩; have n0_ := Aside0.mk (Kd.R_below (by (with_reducible repeat (first | apply Kd.R_alloc | apply Kd.R_drewN | apply Kd.R_drew)); exact HO125.out) hb); have n1_ := Aside0.mk (Kd.R_below (by (with_reducible repeat (first | apply Kd.R_alloc | apply Kd.R_drewN | apply Kd.R_drew)); exact HO128.out) hb); have n2_ := Aside0.mk (below_step (by repeat (first | (with_reducible first | exact HB.out | apply below_alloc | apply pw_below_drewN | apply below_drew1) | exact HB.out)) hb); clear HO125; clear HO128; clear HB; have HO125 := n0_; have HO128 := n1_; have HB := n2_; clear n0_ n1_ n2_; (try clear hb); (try clear hb2); (try clear hk); (try clear hi)))
   go_ret
   exact ⟨by first | rfl | (simp [errW_none, errW_some] <;> rfl) | (simp [*, errW_none, errW_some] <;> rfl), by repeat (first | (with_reducible first | exact HB.out | apply below_alloc | apply pw_below_drewN | apply below_drew1) | exact HB.out)⟩
  ·rw [if_neg c11] at H
   have c11b0 : (t130 == t131) = false := beq_eq_false_iff_ne.mpr c11
   have c11b1 : (t130 != t131) = true := bne_iff_ne.mpr c11
   obtain rfl := Option.some.inj H
   go_enter Try.func3, Try.ntmps3
   go_wp2_with (first | ((with_reducible refine gate_callee (f := 8) rfl ?_); refine goesL_ (some 9) rfl rfl Try.func8 (by kernel_rfl) rfl #[.int .i64 a0] rfl (by (try simp only [List.map_toArray, List.map_cons, List.map_nil]); first | done | rfl | (simp only [List.length_drop, List.length_take]; rfl)) ?_; (with_reducible refine (pantilelaw12_small.calls a0 t122 _ A4.out).mono ?_); rintro e w' ⟨rfl, ⟨nd, rfl⟩⟩; refine ⟨_, rfl, ?_⟩) | ((with_reducible refine gate_callee (f := 10) rfl ?_); refine goesL_ (some 11) rfl rfl Try.func10 (by kernel_rfl) rfl #[.int .i64 t122] rfl (by (try simp only [List.map_toArray, List.map_cons, List.map_nil]); first | done | rfl | (simp only [List.length_drop, List.length_take]; rfl)) ?_; (with_reducible refine (tiles_All.calls t122 t123 _ A5.out).mono ?_); rintro e w18 ⟨v124, rfl, ho0, hb⟩; refine ⟨_, rfl, ?_⟩; have n0_ := Aside0.mk (Kd.R_lower ho0 (below_size (by repeat (first | (with_reducible first | exact HB.out | apply below_alloc | apply pw_below_drewN | apply below_drew1) | exact HB.out)))); have n1_ := Aside0.mk (below_step (by repeat (first | (with_reducible first | exact HB.out | apply below_alloc | apply pw_below_drewN | apply below_drew1) | exact HB.out)) hb); clear HB; have HO125 := n0_; have HB := n1_; clear n0_ n1_; (try clear hb); (try clear hb2); (try clear hk); (try clear hi); (try clear ho0)) | ((with_reducible refine gate_callee (f := 11) rfl ?_); refine goesL_ (some 13) rfl rfl Try.func11 (by kernel_rfl) rfl #[.int .i64 t122] rfl (by (try simp only [List.map_toArray, List.map_cons, List.map_nil]); first | done | rfl | (simp only [List.length_drop, List.length_take]; rfl)) ?_; (with_reducible refine (pantileref12_All.calls k t122 t126 _ A6.out).mono ?_); rintro e w19 ⟨v127, rfl, ho0, hb⟩; refine ⟨_, rfl, ?_⟩; have n0_ := Aside0.mk (Kd.R_elder' (by (with_reducible repeat (first | apply Kd.R_alloc | apply Kd.R_drewN | apply Kd.R_drew)); exact HO125.out) (Kd.R_base ho0) hb); have n1_ := Aside0.mk (Kd.R_lower (Kd.R_new' ho0 (Kd.R_lt (by (with_reducible repeat (first | apply Kd.R_alloc | apply Kd.R_drewN | apply Kd.R_drew)); exact HO125.out))) (below_size (by repeat (first | (with_reducible first | exact HB.out | apply below_alloc | apply pw_below_drewN | apply below_drew1) | exact HB.out)))); have n2_ := Aside0.mk (below_step (by repeat (first | (with_reducible first | exact HB.out | apply below_alloc | apply pw_below_drewN | apply below_drew1) | exact HB.out)) hb); clear HO125; clear HB; have HO125 := n0_; have HO128 := n1_; have HB := n2_; clear n0_ n1_ n2_; (try clear hb); (try clear hb2); (try clear hk); (try clear hi); (try clear ho0); obtain ⟨Ao20, co20, eo20⟩ := Kd.R_slice HO125.out; subst eo20; obtain ⟨Ao21, co21, eo21⟩ := Kd.R_slice HO128.out; subst eo21) | ((with_reducible refine gate_callee (f := 9) rfl ?_); refine goesL_ (some 14) rfl rfl Try.func9 (by kernel_rfl) rfl #[.slice Ao20 t123.length co20, .slice Ao21 t126.length co21] rfl (by (try simp only [List.map_toArray, List.map_cons, List.map_nil]); first | done | rfl | (simp only [List.length_drop, List.length_take]; rfl)) ?_; (with_reducible refine (pantileref12_Same.calls k _ _ t123 _ _ t126 true _ ?side1 ?side2 ?side3 ?side4 A7.out).mono ?_); (case side1 => repeat (first | exact (Kd.R_reads' HO125.out).2.2 | (with_reducible refine Kd.C_alloc ?_ _) | (with_reducible refine Kd.C_drewN ?_ _) | (with_reducible refine Kd.C_drew ?_))); (case side2 => exact (Kd.R_reads' HO125.out).2.1); (case side3 => repeat (first | exact (Kd.R_reads' HO128.out).2.2 | (with_reducible refine Kd.C_alloc ?_ _) | (with_reducible refine Kd.C_drewN ?_ _) | (with_reducible refine Kd.C_drew ?_))); (case side4 => exact (Kd.R_reads' HO128.out).2.1); rintro e w' ⟨rfl, ⟨nd, rfl⟩⟩; refine ⟨_, rfl, ?_⟩) | (go_at_call 12; (with_reducible refine (tiles_Width.calls t122 a1 a2 t130 _ A9.out).mono ?_); rintro e w' ⟨rfl, ⟨nd, rfl⟩⟩) | (go_at_call 13; (with_reducible refine (pantileref12_Width.calls k t122 a1 a2 t131 _ A10.out).mono ?_); rintro e w' ⟨rfl, ⟨nd, rfl⟩⟩))
   go_ret
   exact ⟨by first | rfl | (simp [errW_none, errW_some] <;> rfl) | (simp [*, errW_none, errW_some] <;> rfl), by repeat (first | (with_reducible first | exact HB.out | apply below_alloc | apply pw_below_drewN | apply below_drew1) | exact HB.out)⟩
 ·replace c8 := Bool.eq_false_iff.mpr c8
  subst c8
  have H1 : (some false) = some r := by rw [if_neg (show ¬ (false = true) by decide)] at H; exact H
  clear H
  have H := H1
  clear H1
  obtain rfl := Option.some.inj H
  go_enter Try.func3, Try.ntmps3
  go_wp2_with (first | ((with_reducible refine gate_callee (f := 8) rfl ?_); refine goesL_ (some 9) rfl rfl Try.func8 (by kernel_rfl) rfl #[.int .i64 a0] rfl (by (try simp only [List.map_toArray, List.map_cons, List.map_nil]); first | done | rfl | (simp only [List.length_drop, List.length_take]; rfl)) ?_; (with_reducible refine (pantilelaw12_small.calls a0 t122 _ A4.out).mono ?_); rintro e w' ⟨rfl, ⟨nd, rfl⟩⟩; refine ⟨_, rfl, ?_⟩) | ((with_reducible refine gate_callee (f := 10) rfl ?_); refine goesL_ (some 11) rfl rfl Try.func10 (by kernel_rfl) rfl #[.int .i64 t122] rfl (by (try simp only [List.map_toArray, List.map_cons, List.map_nil]); first | done | rfl | (simp only [List.length_drop, List.length_take]; rfl)) ?_; (with_reducible refine (tiles_All.calls t122 t123 _ A5.out).mono ?_); rintro e w22 ⟨v124, rfl, ho0, hb⟩; refine ⟨_, rfl, ?_⟩; have n0_ := Aside0.mk (Kd.R_lower ho0 (below_size (by repeat (first | (with_reducible first | exact HB.out | apply below_alloc | apply pw_below_drewN | apply below_drew1) | exact HB.out)))); have n1_ := Aside0.mk (below_step (by repeat (first | (with_reducible first | exact HB.out | apply below_alloc | apply pw_below_drewN | apply below_drew1) | exact HB.out)) hb); clear HB; have HO125 := n0_; have HB := n1_; clear n0_ n1_; (try clear hb); (try clear hb2); (try clear hk); (try clear hi); (try clear ho0)) | ((with_reducible refine gate_callee (f := 11) rfl ?_); refine goesL_ (some 13) rfl rfl Try.func11 (by kernel_rfl) rfl #[.int .i64 t122] rfl (by (try simp only [List.map_toArray, List.map_cons, List.map_nil]); first | done | rfl | (simp only [List.length_drop, List.length_take]; rfl)) ?_; (with_reducible refine (pantileref12_All.calls k t122 t126 _ A6.out).mono ?_); rintro e w23 ⟨v127, rfl, ho0, hb⟩; refine ⟨_, rfl, ?_⟩; have n0_ := Aside0.mk (Kd.R_elder' (by (with_reducible repeat (first | apply Kd.R_alloc | apply Kd.R_drewN | apply Kd.R_drew)); exact HO125.out) (Kd.R_base ho0) hb); have n1_ := Aside0.mk (Kd.R_lower (Kd.R_new' ho0 (Kd.R_lt (by (with_reducible repeat (first | apply Kd.R_alloc | apply Kd.R_drewN | apply Kd.R_drew)); exact HO125.out))) (below_size (by repeat (first | (with_reducible first | exact HB.out | apply below_alloc | apply pw_below_drewN | apply below_drew1) | exact HB.out)))); have n2_ := Aside0.mk (below_step (by repeat (first | (with_reducible first | exact HB.out | apply below_alloc | apply pw_below_drewN | apply below_drew1) | exact HB.out)) hb); clear HO125; clear HB; have HO125 := n0_; have HO128 := n1_; have HB := n2_; clear n0_ n1_ n2_; (try clear hb); (try clear hb2); (try clear hk); (try clear hi); (try clear ho0); obtain ⟨Ao24, co24, eo24⟩ := Kd.R_slice HO125.out; subst eo24; obtain ⟨Ao25, co25, eo25⟩ := Kd.R_slice HO128.out; subst eo25) | ((with_reducible refine gate_callee (f := 9) rfl ?_); refine goesL_ (some 14) rfl rfl Try.func9 (by kernel_rfl) rfl #[.slice Ao24 t123.length co24, .slice Ao25 t126.length co25] rfl (by (try simp only [List.map_toArray, List.map_cons, List.map_nil]); first | done | rfl | (simp only [List.length_drop, List.length_take]; rfl)) ?_; (with_reducible refine (pantileref12_Same.calls k _ _ t123 _ _ t126 false _ ?side1 ?side2 ?side3 ?side4 A7.out).mono ?_); (case side1 => repeat (first | exact (Kd.R_reads' HO125.out).2.2 | (with_reducible refine Kd.C_alloc ?_ _) | (with_reducible refine Kd.C_drewN ?_ _) | (with_reducible refine Kd.C_drew ?_))); (case side2 => exact (Kd.R_reads' HO125.out).2.1); (case side3 => repeat (first | exact (Kd.R_reads' HO128.out).2.2 | (with_reducible refine Kd.C_alloc ?_ _) | (with_reducible refine Kd.C_drewN ?_ _) | (with_reducible refine Kd.C_drew ?_))); (case side4 => exact (Kd.R_reads' HO128.out).2.1); rintro e w' ⟨rfl, ⟨nd, rfl⟩⟩; refine ⟨_, rfl, ?_⟩))
  go_ret
  exact ⟨by first | rfl | (simp [errW_none, errW_some] <;> rfl) | (simp [*, errW_none, errW_some] <;> rfl), by repeat (first | (with_reducible first | exact HB.out | apply below_alloc | apply pw_below_drewN | apply below_drew1) | exact HB.out)⟩

/-- THE ONE PURE STATEMENT of pantilelaw12_TilesAll: yours. -/
def pantilelaw12_TilesAll.Pure : Prop := ∀ (a0 : Int) (a1 : Int) (a2 : Int), (Lit.int .i64 a0).wf = true → (Lit.int .i64 a1).wf = true → (Lit.int .i64 a2).wf = true → ∃ k, pantilelaw12_TilesAll.f k a0 a1 a2 = some true
theorem pantilelaw12_TilesAll.walk (P : pantilelaw12_TilesAll.Pure) (a0 : Int) (a1 : Int) (a2 : Int) (w : World) (w0 : (Lit.int .i64 a0).wf = true) (w1 : (Lit.int .i64 a1).wf = true) (w2 : (Lit.int .i64 a2).wf = true) :
  Calls Try.prog 3 #[.int .i64 a0, .int .i64 a1, .int .i64 a2] w fun e w' => e = .returned (.bool true) ∧ Below w.heap.size w w' := by
 obtain ⟨k, h⟩ := P a0 a1 a2 w0 w1 w2
 refine (pantilelaw12_TilesAll.calls k a0 a1 a2 true w h).mono ?_
 rintro e w' ⟨rfl, hd⟩
 exact ⟨rfl, hd⟩

/-! ### pantilelaw12_TilesPlace: function 4 -/
mutual
def pantilelaw12_TilesPlace.j0 : Nat → Int → Int → Int → Int → Bool → Int → Int → Int → Option (Bool)
 | 0, _, _, _, _, _, _, _, _ => none
 | k + 1, x0, x1, x6, x7, x31, x139000, x139001, x139002 => if x31 = true then (if (x139000 == 0 && (x139001 == 0 && (x139002 == 0))) = true then (if x6 = 0 then (if x7 = 6 then ((pantilelaw12_lives.f).bind fun t139 => (some t139)) else (some false)) else (some false)) else (some false)) else (pantilelaw12_TilesPlace.l0 k x0 x1 x6 x7 1 0 x139000 x139001 x139002)
def pantilelaw12_TilesPlace.l0 : Nat → Int → Int → Int → Int → Int → Int → Int → Int → Int → Option (Bool)
 | 0, _, _, _, _, _, _, _, _, _ => none
 | k + 1, x0, x1, x6, x7, x8, x9, x139000, x139001, x139002 => if x9 < (Int.tmod x0 8) then (pantilelaw12_TilesPlace.l0 k x0 x1 x6 x7 (wrap64 (2 * x8)) (wrap64 (x9 + 1)) x139000 x139001 x139002) else (if x7 = 0 then (if x139000 = (wrap64 (Int.tdiv x0 8)) then (if x139002 = (wrap64 (x6 + x8)) then (if x6 ≥ 0 then (if x139002 ≤ 256 then (if x8 = 0 then (none) else (if (Int.tmod x6 x8) = 0 then (if (wrap64 ((wrap64 (256 * x139001)) + x6)) = (wrap64 (x1 * x8)) then ((pantilelaw12_lives.f).bind fun t140 => (some t140)) else (some false)) else (some false))) else (some false)) else (some false)) else (some false)) else (some false)) else (some false))
end
def pantilelaw12_TilesPlace.f (k : Nat) (a0 : Int) (a1 : Int) : Option (Bool) := (tiles_Place.f a0 a1).bind fun bt133 => (if a0 < 0 then (pantilelaw12_TilesPlace.j0 k a0 a1 bt133.2.2.2.1 bt133.2.2.2.2 true bt133.1 bt133.2.1 bt133.2.2.1) else (if a0 > 40 then (pantilelaw12_TilesPlace.j0 k a0 a1 bt133.2.2.2.1 bt133.2.2.2.2 true bt133.1 bt133.2.1 bt133.2.2.1) else (if a1 < 0 then (pantilelaw12_TilesPlace.j0 k a0 a1 bt133.2.2.2.1 bt133.2.2.2.2 true bt133.1 bt133.2.1 bt133.2.2.1) else (pantilelaw12_TilesPlace.j0 k a0 a1 bt133.2.2.2.1 bt133.2.2.2.2 (decide (a1 > 1099511627776)) bt133.1 bt133.2.1 bt133.2.2.1))))
theorem pantilelaw12_TilesPlace.mono_l : ∀ k, (∀ y0 y1 y2 y3 y4 y5 y6 y7, LeO (pantilelaw12_TilesPlace.j0 k y0 y1 y2 y3 y4 y5 y6 y7) (pantilelaw12_TilesPlace.j0 (k + 1) y0 y1 y2 y3 y4 y5 y6 y7)) ∧ (∀ y0 y1 y2 y3 y4 y5 y6 y7 y8, LeO (pantilelaw12_TilesPlace.l0 k y0 y1 y2 y3 y4 y5 y6 y7 y8) (pantilelaw12_TilesPlace.l0 (k + 1) y0 y1 y2 y3 y4 y5 y6 y7 y8))
 | 0 => ⟨fun _ _ _ _ _ _ _ _ r h => by simp [pantilelaw12_TilesPlace.j0] at h, fun _ _ _ _ _ _ _ _ _ r h => by simp [pantilelaw12_TilesPlace.l0] at h⟩
 | k + 1 => by
  obtain ⟨ih0, ih1⟩ := pantilelaw12_TilesPlace.mono_l k
  refine ⟨?_, ?_⟩
  ·intro y0 y1 y2 y3 y4 y5 y6 y7
   unfold pantilelaw12_TilesPlace.j0
   repeat' first
   | (with_reducible exact ih0 _ _ _ _ _ _ _ _)
   | (with_reducible exact ih1 _ _ _ _ _ _ _ _ _)
   | (with_reducible exact LeO.refl _)
   | (with_reducible exact LeO.none _)
   | (with_reducible refine LeO.ite ?_ ?_)
   | (with_reducible refine LeO.bind ?_ (fun _ => ?_))
   | exact ih0 _ _ _ _ _ _ _ _
   | exact ih1 _ _ _ _ _ _ _ _ _
   | exact LeO.none _
   | refine LeO.ite ?_ ?_
   | refine LeO.bind ?_ (fun _ => ?_)
  ·intro y0 y1 y2 y3 y4 y5 y6 y7 y8
   unfold pantilelaw12_TilesPlace.l0
   repeat' first
   | (with_reducible exact ih0 _ _ _ _ _ _ _ _)
   | (with_reducible exact ih1 _ _ _ _ _ _ _ _ _)
   | (with_reducible exact LeO.refl _)
   | (with_reducible exact LeO.none _)
   | (with_reducible refine LeO.ite ?_ ?_)
   | (with_reducible refine LeO.bind ?_ (fun _ => ?_))
   | exact ih0 _ _ _ _ _ _ _ _
   | exact ih1 _ _ _ _ _ _ _ _ _
   | exact LeO.none _
   | refine LeO.ite ?_ ?_
   | refine LeO.bind ?_ (fun _ => ?_)
theorem pantilelaw12_TilesPlace.mono : ∀ a0 a1 k, LeO (pantilelaw12_TilesPlace.f k a0 a1) (pantilelaw12_TilesPlace.f (k + 1) a0 a1) := by
 intro a0 a1 k
 obtain ⟨ih0, ih1⟩ := pantilelaw12_TilesPlace.mono_l k
 unfold pantilelaw12_TilesPlace.f
 repeat' first
   | (with_reducible exact ih0 _ _ _ _ _ _ _ _)
   | (with_reducible exact ih1 _ _ _ _ _ _ _ _ _)
   | (with_reducible exact LeO.refl _)
   | (with_reducible exact LeO.none _)
   | (with_reducible refine LeO.ite ?_ ?_)
   | (with_reducible refine LeO.bind ?_ (fun _ => ?_))
   | exact ih0 _ _ _ _ _ _ _ _
   | exact ih1 _ _ _ _ _ _ _ _ _
   | exact LeO.none _
   | refine LeO.ite ?_ ?_
   | refine LeO.bind ?_ (fun _ => ?_)
set_option maxHeartbeats 8000000 in
set_option maxRecDepth 100000 in
theorem pantilelaw12_TilesPlace.calls (k : Nat) (a0 : Int) (a1 : Int) (r : Bool) (w : World) (h : pantilelaw12_TilesPlace.f k a0 a1 = some r) :
  Calls Try.prog 4 #[.int .i64 a0, .int .i64 a1] w fun e w' => e = .returned (.bool r) ∧ Below w.heap.size w w' := by
 have hu30 := Try.underlying30
 have HB := Aside0.mk (Below.refl w.heap.size w)
 have H : ((tiles_Place.f a0 a1).bind fun bt133 => (if a0 < 0 then (pantilelaw12_TilesPlace.j0 k a0 a1 bt133.2.2.2.1 bt133.2.2.2.2 true bt133.1 bt133.2.1 bt133.2.2.1) else (if a0 > 40 then (pantilelaw12_TilesPlace.j0 k a0 a1 bt133.2.2.2.1 bt133.2.2.2.2 true bt133.1 bt133.2.1 bt133.2.2.1) else (if a1 < 0 then (pantilelaw12_TilesPlace.j0 k a0 a1 bt133.2.2.2.1 bt133.2.2.2.2 true bt133.1 bt133.2.1 bt133.2.2.1) else (pantilelaw12_TilesPlace.j0 k a0 a1 bt133.2.2.2.1 bt133.2.2.2.2 (decide (a1 > 1099511627776)) bt133.1 bt133.2.1 bt133.2.2.1))))) = some r := h
 clear h
 replace H := Option.bind_eq_some_iff.mp H
 obtain ⟨⟨t133, t134, t135, t136, t137⟩, A30, H⟩ := H
 replace H : (if a0 < 0 then (pantilelaw12_TilesPlace.j0 k a0 a1 t136 t137 true t133 t134 t135) else (if a0 > 40 then (pantilelaw12_TilesPlace.j0 k a0 a1 t136 t137 true t133 t134 t135) else (if a1 < 0 then (pantilelaw12_TilesPlace.j0 k a0 a1 t136 t137 true t133 t134 t135) else (pantilelaw12_TilesPlace.j0 k a0 a1 t136 t137 (decide (a1 > 1099511627776)) t133 t134 t135)))) = some r := H
 have A3 := Aside0.mk A30
 clear A30
 have HC4 := Aside0.mk H
 clear H
 go_enter Try.func4, Try.ntmps4
 go_upto_region 2 with (first | ((with_reducible refine gate_callee (f := 15) rfl ?_); refine goesL_ (some 14) rfl rfl Try.func15 (by kernel_rfl) rfl #[.int .i64 a0, .int .i64 a1] rfl (by (try simp only [List.map_toArray, List.map_cons, List.map_nil]); first | done | rfl | (simp only [List.length_drop, List.length_take]; rfl)) ?_; (with_reducible refine (tiles_Place.calls a0 a1 t133 t134 t135 t136 t137 _ A3.out).mono ?_); rintro e w5 ⟨rfl, hb⟩; refine ⟨_, rfl, ?_⟩; have n0_ := Aside0.mk (below_step (by repeat (first | (with_reducible first | exact HB.out | apply below_alloc | apply pw_below_drewN | apply below_drew1) | exact HB.out)) hb); clear HB; have HB := n0_; clear n0_; (try clear hb); (try clear hb2); (try clear hk); (try clear hi)) | ((with_reducible refine gate_dst (N := 5) rfl ?_); refine box_event ?hg (N := 5) ?hd (cs := #[.int .i64 0, .int .i64 0, .int .i64 0]) (t := 30) ?hr ?_; (case hd => rfl); (case hg => rfl); (case hr => first | (go_simp; done) | (go_simp; rfl)); intro gb138 hg w6 hbox hb; have n0_ := Aside0.mk (below_step (by repeat (first | (with_reducible first | exact HB.out | apply below_alloc | apply pw_below_drewN | apply below_drew1) | exact HB.out)) hb); have n1_ := Aside0.mk (hbox); have n2_ := Aside0.mk ((by rw [hg]; exact (below_size (by repeat (first | (with_reducible first | exact HB.out | apply below_alloc | apply pw_below_drewN | apply below_drew1) | exact HB.out))) : w.heap.size ≤ gb138)); have n3_ := Aside0.mk ((by rw [hg]; exact (below_size (by repeat (first | (with_reducible first | exact HB.out | apply below_alloc | apply pw_below_drewN | apply below_drew1) | exact HB.out))) : w.heap.size ≤ gb138)); clear HB; have HB := n0_; have BK138 := n1_; have GW138 := n2_; have GE138 := n3_; clear n0_ n1_ n2_ n3_; clear hb hbox hg; have hcz7_0 : w6.cell? ⟨gb138, 0, none⟩ = some (.int .i64 0) := (blk_cell BK138.out 0).trans rfl; have hcz7_1 : w6.cell? ⟨gb138, 1, none⟩ = some (.int .i64 0) := (blk_cell BK138.out 1).trans rfl; have hcz7_2 : w6.cell? ⟨gb138, 2, none⟩ = some (.int .i64 0) := (blk_cell BK138.out 2).trans rfl; have hfz7_0 := blk_frozen BK138.out 0; have hfz7_1 := blk_frozen BK138.out 1; have hfz7_2 := blk_frozen BK138.out 2))
 (try simp only [Act.put, List.setIfInBounds_toArray, List.set_cons_zero, List.set_cons_succ])
 go_cut [31] (fun v31 wc => ∃ (kq : Nat) (x31_3 : Bool), v31 = .bool x31_3 ∧ Aside0 (pantilelaw12_TilesPlace.j0 kq a0 a1 t136 t137 x31_3 t133 t134 t135 = some r) ∧ Aside0 (kq ≤ k) ∧ Aside0 (wc.heap[gb138]? = some (.cells #[.int .i64 t133, .int .i64 t134, .int .i64 t135] 30 (0, 0))) ∧ Aside0 (Below w.heap.size w wc))
 case first =>
  have H := HC4.out
  clear HC4
  by_cases c8 : a0 < 0
  ·rw [if_pos c8] at H
   have c8b0 : decide (a0 < 0) = true := decide_eq_true c8
   clear c8
   (first | rw [c8b0] | (simp only [i64_w, i32_w]; rw [c8b0]) | skip)
   have H' := Aside0.mk H
   clear H
   go_wp2
   go_meet
   case rel => exact ⟨_, (true), (by first | rfl | (simp; done) | (simp [*]; done)), H', ⟨by first | omega | exact Nat.le_refl _⟩, ⟨by (with_reducible repeat (first | refine blk_drewN ?_ _ | refine blk_drew ?_ | refine blk_alloc ?_ _)); refine blk_put (cs := #[.int .i64 t133, .int .i64 t134, .int .i64 0]) ?_ 2 _ rfl; (with_reducible repeat (first | refine blk_drewN ?_ _ | refine blk_drew ?_ | refine blk_alloc ?_ _)); refine blk_put (cs := #[.int .i64 t133, .int .i64 0, .int .i64 0]) ?_ 1 _ rfl; (with_reducible repeat (first | refine blk_drewN ?_ _ | refine blk_drew ?_ | refine blk_alloc ?_ _)); refine blk_put (cs := #[.int .i64 0, .int .i64 0, .int .i64 0]) ?_ 0 _ rfl; (with_reducible repeat (first | refine blk_drewN ?_ _ | refine blk_drew ?_ | refine blk_alloc ?_ _)); exact BK138.out⟩, ⟨by repeat (first | (with_reducible first | exact HB.out | apply below_alloc | apply pw_below_drewN | apply below_drew1 | refine below_set ?_ GE138.out) | exact HB.out)⟩⟩
  ·rw [if_neg c8] at H
   have c8b0 : decide (a0 < 0) = false := decide_eq_false c8
   clear c8
   (first | rw [c8b0] | (simp only [i64_w, i32_w]; rw [c8b0]) | skip)
   by_cases c9 : a0 > 40
   ·rw [if_pos c9] at H
    have c9b0 : decide (40 < a0) = true := decide_eq_true c9
    clear c9
    have H' := Aside0.mk H
    clear H
    go_wp2
    go_meet
    case rel => exact ⟨_, (true), (by first | rfl | (simp; done) | (simp [*]; done)), H', ⟨by first | omega | exact Nat.le_refl _⟩, ⟨by (with_reducible repeat (first | refine blk_drewN ?_ _ | refine blk_drew ?_ | refine blk_alloc ?_ _)); refine blk_put (cs := #[.int .i64 t133, .int .i64 t134, .int .i64 0]) ?_ 2 _ rfl; (with_reducible repeat (first | refine blk_drewN ?_ _ | refine blk_drew ?_ | refine blk_alloc ?_ _)); refine blk_put (cs := #[.int .i64 t133, .int .i64 0, .int .i64 0]) ?_ 1 _ rfl; (with_reducible repeat (first | refine blk_drewN ?_ _ | refine blk_drew ?_ | refine blk_alloc ?_ _)); refine blk_put (cs := #[.int .i64 0, .int .i64 0, .int .i64 0]) ?_ 0 _ rfl; (with_reducible repeat (first | refine blk_drewN ?_ _ | refine blk_drew ?_ | refine blk_alloc ?_ _)); exact BK138.out⟩, ⟨by repeat (first | (with_reducible first | exact HB.out | apply below_alloc | apply pw_below_drewN | apply below_drew1 | refine below_set ?_ GE138.out) | exact HB.out)⟩⟩
   ·rw [if_neg c9] at H
    have c9b0 : decide (40 < a0) = false := decide_eq_false c9
    clear c9
    by_cases c10 : a1 < 0
    ·rw [if_pos c10] at H
     have c10b0 : decide (a1 < 0) = true := decide_eq_true c10
     clear c10
     have H' := Aside0.mk H
     clear H
     go_wp2
     go_meet
     case rel => exact ⟨_, (true), (by first | rfl | (simp; done) | (simp [*]; done)), H', ⟨by first | omega | exact Nat.le_refl _⟩, ⟨by (with_reducible repeat (first | refine blk_drewN ?_ _ | refine blk_drew ?_ | refine blk_alloc ?_ _)); refine blk_put (cs := #[.int .i64 t133, .int .i64 t134, .int .i64 0]) ?_ 2 _ rfl; (with_reducible repeat (first | refine blk_drewN ?_ _ | refine blk_drew ?_ | refine blk_alloc ?_ _)); refine blk_put (cs := #[.int .i64 t133, .int .i64 0, .int .i64 0]) ?_ 1 _ rfl; (with_reducible repeat (first | refine blk_drewN ?_ _ | refine blk_drew ?_ | refine blk_alloc ?_ _)); refine blk_put (cs := #[.int .i64 0, .int .i64 0, .int .i64 0]) ?_ 0 _ rfl; (with_reducible repeat (first | refine blk_drewN ?_ _ | refine blk_drew ?_ | refine blk_alloc ?_ _)); exact BK138.out⟩, ⟨by repeat (first | (with_reducible first | exact HB.out | apply below_alloc | apply pw_below_drewN | apply below_drew1 | refine below_set ?_ GE138.out) | exact HB.out)⟩⟩
    ·rw [if_neg c10] at H
     have c10b0 : decide (a1 < 0) = false := decide_eq_false c10
     clear c10
     have H' := Aside0.mk H
     clear H
     go_wp2
     go_meet
     case rel => exact ⟨_, (decide (a1 > 1099511627776)), (by first | rfl | (simp; done) | (simp [*]; done)), H', ⟨by first | omega | exact Nat.le_refl _⟩, ⟨by (with_reducible repeat (first | refine blk_drewN ?_ _ | refine blk_drew ?_ | refine blk_alloc ?_ _)); refine blk_put (cs := #[.int .i64 t133, .int .i64 t134, .int .i64 0]) ?_ 2 _ rfl; (with_reducible repeat (first | refine blk_drewN ?_ _ | refine blk_drew ?_ | refine blk_alloc ?_ _)); refine blk_put (cs := #[.int .i64 t133, .int .i64 0, .int .i64 0]) ?_ 1 _ rfl; (with_reducible repeat (first | refine blk_drewN ?_ _ | refine blk_drew ?_ | refine blk_alloc ?_ _)); refine blk_put (cs := #[.int .i64 0, .int .i64 0, .int .i64 0]) ?_ 0 _ rfl; (with_reducible repeat (first | refine blk_drewN ?_ _ | refine blk_drew ?_ | refine blk_alloc ?_ _)); exact BK138.out⟩, ⟨by repeat (first | (with_reducible first | exact HB.out | apply below_alloc | apply pw_below_drewN | apply below_drew1 | refine below_set ?_ GE138.out) | exact HB.out)⟩⟩
 case rest =>
  clear HC4
  try clear c1
  try clear p2
  try clear c4
  try clear c8
  try clear c8b0
  try clear c9
  try clear c9b0
  try clear c10
  try clear c10b0
  try clear hcz7_0
  try clear hcz7_1
  try clear hcz7_2
  try clear hfz7_0
  try clear hfz7_1
  try clear hfz7_2
  obtain ⟨kq, x31_3, rfl, HA, HJ3, BK138, HB⟩ := hcut
  cases kq with
  | zero => exact absurd HA.out (by simp [pantilelaw12_TilesPlace.j0])
  | succ kj3 =>
   have H := HA.out
   clear HA
   simp only [pantilelaw12_TilesPlace.j0] at H
   by_cases c11 : x31_3 = true
   ·subst c11
    have H1 : (if (t133 == 0 && (t134 == 0 && (t135 == 0))) = true then (if t136 = 0 then (if t137 = 6 then ((pantilelaw12_lives.f).bind fun t139 => (some t139)) else (some false)) else (some false)) else (some false)) = some r := by rw [if_pos rfl] at H; exact H
    clear H
    have H := H1
    clear H1
    by_cases c12 : (t133 == 0 && (t134 == 0 && (t135 == 0))) = true
    ·rw [if_pos c12] at H
     have c12b0 : (t133 == 0 && (t134 == 0 && (t135 == 0))) = true := c12
     (try (have c12b1 : decide (t133 = 0 && (t134 == 0 && (t135 == 0))) = true := by simpa using c12))
     (try (have c12b2 : (t133 == 0 && (t134 == 0 && (t135 == 0))) = true := by simpa using c12))
     clear c12
     by_cases c13 : t136 = 0
     ·rw [if_pos c13] at H
      have c13b0 : (t136 == 0) = true := beq_iff_eq.mpr c13
      have c13b1 : (t136 != 0) = false := bne_eq_false_iff_eq.mpr c13
      clear c13
      by_cases c14 : t137 = 6
      ·rw [if_pos c14] at H
       have c14b0 : (t137 == 6) = true := beq_iff_eq.mpr c14
       have c14b1 : (t137 != 6) = false := bne_eq_false_iff_eq.mpr c14
       clear c14
       replace H := Option.bind_eq_some_iff.mp H
       obtain ⟨t139, A150, H⟩ := H
       replace H : (some t139) = some r := H
       have A15 := Aside0.mk A150
       clear A150
       obtain rfl := Option.some.inj H
       have hcz16_0 : wc.cell? ⟨gb138, 0, none⟩ = some (.int .i64 t133) := (blk_cell BK138.out 0).trans rfl
       have hcz16_1 : wc.cell? ⟨gb138, 1, none⟩ = some (.int .i64 t134) := (blk_cell BK138.out 1).trans rfl
       have hcz16_2 : wc.cell? ⟨gb138, 2, none⟩ = some (.int .i64 t135) := (blk_cell BK138.out 2).trans rfl
       have hfz16_0 := blk_frozen BK138.out 0
       have hfz16_1 := blk_frozen BK138.out 1
       have hfz16_2 := blk_frozen BK138.out 2
       go_wp2_with (first | (go_at_call 14; (with_reducible refine (pantilelaw12_lives.calls  t139 _ A15.out).mono ?_); rintro e w17 ⟨rfl, hb⟩; have n0_ := Aside0.mk (blk_below (g := gb138) (o := .cells #[.int .i64 t133, .int .i64 t134, .int .i64 t135] 30 (0, 0)) (by (with_reducible repeat (first | refine blk_drewN ?_ _ | refine blk_drew ?_ | refine blk_alloc ?_ _)); exact BK138.out) hb); have n1_ := Aside0.mk (below_step (by repeat (first | (with_reducible first | exact HB.out | apply below_alloc | apply pw_below_drewN | apply below_drew1 | refine below_set ?_ GE138.out) | exact HB.out)) hb); clear BK138; clear HB; have BK138 := n0_; have HB := n1_; clear n0_ n1_; (try clear hb); (try clear hb2); (try clear hk); (try clear hi)))
       go_ret
       exact ⟨by first | rfl | (simp [errW_none, errW_some] <;> rfl) | (simp [*, errW_none, errW_some] <;> rfl), by repeat (first | (with_reducible first | exact HB.out | apply below_alloc | apply pw_below_drewN | apply below_drew1 | refine below_set ?_ GE138.out) | exact HB.out)⟩
      ·rw [if_neg c14] at H
       have c14b0 : (t137 == 6) = false := beq_eq_false_iff_ne.mpr c14
       have c14b1 : (t137 != 6) = true := bne_iff_ne.mpr c14
       obtain rfl := Option.some.inj H
       have hcz18_0 : wc.cell? ⟨gb138, 0, none⟩ = some (.int .i64 t133) := (blk_cell BK138.out 0).trans rfl
       have hcz18_1 : wc.cell? ⟨gb138, 1, none⟩ = some (.int .i64 t134) := (blk_cell BK138.out 1).trans rfl
       have hcz18_2 : wc.cell? ⟨gb138, 2, none⟩ = some (.int .i64 t135) := (blk_cell BK138.out 2).trans rfl
       have hfz18_0 := blk_frozen BK138.out 0
       have hfz18_1 := blk_frozen BK138.out 1
       have hfz18_2 := blk_frozen BK138.out 2
       go_wp2
       go_ret
       exact ⟨by first | rfl | (simp [errW_none, errW_some] <;> rfl) | (simp [*, errW_none, errW_some] <;> rfl), by repeat (first | (with_reducible first | exact HB.out | apply below_alloc | apply pw_below_drewN | apply below_drew1 | refine below_set ?_ GE138.out) | exact HB.out)⟩
     ·rw [if_neg c13] at H
      have c13b0 : (t136 == 0) = false := beq_eq_false_iff_ne.mpr c13
      have c13b1 : (t136 != 0) = true := bne_iff_ne.mpr c13
      obtain rfl := Option.some.inj H
      have hcz19_0 : wc.cell? ⟨gb138, 0, none⟩ = some (.int .i64 t133) := (blk_cell BK138.out 0).trans rfl
      have hcz19_1 : wc.cell? ⟨gb138, 1, none⟩ = some (.int .i64 t134) := (blk_cell BK138.out 1).trans rfl
      have hcz19_2 : wc.cell? ⟨gb138, 2, none⟩ = some (.int .i64 t135) := (blk_cell BK138.out 2).trans rfl
      have hfz19_0 := blk_frozen BK138.out 0
      have hfz19_1 := blk_frozen BK138.out 1
      have hfz19_2 := blk_frozen BK138.out 2
      go_wp2
      go_ret
      exact ⟨by first | rfl | (simp [errW_none, errW_some] <;> rfl) | (simp [*, errW_none, errW_some] <;> rfl), by repeat (first | (with_reducible first | exact HB.out | apply below_alloc | apply pw_below_drewN | apply below_drew1 | refine below_set ?_ GE138.out) | exact HB.out)⟩
    ·rw [if_neg c12] at H
     have c12b0 : (t133 == 0 && (t134 == 0 && (t135 == 0))) = false := by simpa using c12
     (try (have c12b1 : decide (t133 = 0 && (t134 == 0 && (t135 == 0))) = false := by simpa using c12))
     (try (have c12b2 : (t133 == 0 && (t134 == 0 && (t135 == 0))) = false := by simpa using c12))
     (try (have c12b3 : ¬ (t133 = 0 && (t134 == 0 && (t135 == 0))) := by simpa using c12))
     clear c12
     obtain rfl := Option.some.inj H
     have hcz20_0 : wc.cell? ⟨gb138, 0, none⟩ = some (.int .i64 t133) := (blk_cell BK138.out 0).trans rfl
     have hcz20_1 : wc.cell? ⟨gb138, 1, none⟩ = some (.int .i64 t134) := (blk_cell BK138.out 1).trans rfl
     have hcz20_2 : wc.cell? ⟨gb138, 2, none⟩ = some (.int .i64 t135) := (blk_cell BK138.out 2).trans rfl
     have hfz20_0 := blk_frozen BK138.out 0
     have hfz20_1 := blk_frozen BK138.out 1
     have hfz20_2 := blk_frozen BK138.out 2
     go_wp2
     go_ret
     exact ⟨by first | rfl | (simp [errW_none, errW_some] <;> rfl) | (simp [*, errW_none, errW_some] <;> rfl), by repeat (first | (with_reducible first | exact HB.out | apply below_alloc | apply pw_below_drewN | apply below_drew1 | refine below_set ?_ GE138.out) | exact HB.out)⟩
   ·replace c11 := Bool.eq_false_iff.mpr c11
    subst c11
    have H1 : (pantilelaw12_TilesPlace.l0 kj3 a0 a1 t136 t137 1 0 t133 t134 t135) = some r := by rw [if_neg (show ¬ (false = true) by decide)] at H; exact H
    clear H
    have H := H1
    clear H1
    have H' := Aside0.mk H
    clear H
    go_wp2
    go_loopg [8, 9] kj3 (fun kq v8 v9 w' => ∃ (x8_2 : Int) (x9_2 : Int), v8 = .int .i64 x8_2 ∧ v9 = .int .i64 x9_2 ∧ Aside0 (pantilelaw12_TilesPlace.l0 kq a0 a1 t136 t137 x8_2 x9_2 t133 t134 t135 = some r) ∧ Aside0 (kq ≤ kj3) ∧ Aside0 (w'.heap[gb138]? = some (.cells #[.int .i64 t133, .int .i64 t134, .int .i64 t135] 30 (0, 0))) ∧ Aside0 (Below w.heap.size w w'))
    case atStart => exact ⟨(1), (0), (by first | rfl | (simp; done) | (simp [*]; done)), (by first | rfl | (simp; done) | (simp [*]; done)), H', ⟨Nat.le_refl _⟩, ⟨by (with_reducible repeat (first | refine blk_drewN ?_ _ | refine blk_drew ?_ | refine blk_alloc ?_ _)); exact BK138.out⟩, ⟨by repeat (first | (with_reducible first | exact HB.out | apply below_alloc | apply pw_below_drewN | apply below_drew1 | refine below_set ?_ GE138.out) | exact HB.out)⟩⟩
    case round =>
     clear H'
     try clear c1
     try clear p2
     try clear c4
     try clear c8
     try clear c8b0
     try clear c9
     try clear c9b0
     try clear c10
     try clear c10b0
     try clear c11
     try clear c12
     try clear c12b0
     try clear c12b1
     try clear c12b2
     try clear c13
     try clear c13b0
     try clear c13b1
     try clear c14
     try clear c14b0
     try clear c14b1
     try clear c15
     try clear hcz16_0
     try clear hcz16_1
     try clear hcz16_2
     try clear hcz18_0
     try clear hcz18_1
     try clear hcz18_2
     try clear hcz19_0
     try clear hcz19_1
     try clear hcz19_2
     try clear hcz20_0
     try clear hcz20_1
     try clear hcz20_2
     try clear hcz7_0
     try clear hcz7_1
     try clear hcz7_2
     try clear hfz16_0
     try clear hfz16_1
     try clear hfz16_2
     try clear hfz18_0
     try clear hfz18_1
     try clear hfz18_2
     try clear hfz19_0
     try clear hfz19_1
     try clear hfz19_2
     try clear hfz20_0
     try clear hfz20_1
     try clear hfz20_2
     try clear hfz7_0
     try clear hfz7_1
     try clear hfz7_2
     try clear p2
     obtain ⟨x8_2, x9_2, rfl, rfl, HA, HK2, BK138, HB⟩ := hrel
     cases gk with
     | zero => exact absurd HA.out (by simp [pantilelaw12_TilesPlace.l0])
     | succ k2 =>
      have H := HA.out
      clear HA
      simp only [pantilelaw12_TilesPlace.l0] at H
      by_cases c21 : x9_2 < (Int.tmod a0 8)
      ·rw [if_pos c21] at H
       have c21b0 : decide (x9_2 < (Int.tmod a0 8)) = true := decide_eq_true c21
       clear c21
       have H' := Aside0.mk H
       clear H
       go_wp2
       go_roundg k2
       case measure => have := HJ3.out; have := HK2.out; omega
       case rel => exact ⟨(wrap64 (2 * x8_2)), (wrap64 (x9_2 + 1)), (by first | rfl | (simp; done) | (simp [*]; done)), (by first | rfl | (simp; done) | (simp [*]; done)), H', ⟨by have := HJ3.out; have := HK2.out; omega⟩, ⟨by (with_reducible repeat (first | refine blk_drewN ?_ _ | refine blk_drew ?_ | refine blk_alloc ?_ _)); exact BK138.out⟩, ⟨by repeat (first | (with_reducible first | exact HB.out | apply below_alloc | apply pw_below_drewN | apply below_drew1 | refine below_set ?_ GE138.out) | exact HB.out)⟩⟩
      ·rw [if_neg c21] at H
       have c21b0 : decide (x9_2 < (Int.tmod a0 8)) = false := decide_eq_false c21
       clear c21
       by_cases c22 : t137 = 0
       ·rw [if_pos c22] at H
        have c22b0 : (t137 == 0) = true := beq_iff_eq.mpr c22
        have c22b1 : (t137 != 0) = false := bne_eq_false_iff_eq.mpr c22
        clear c22
        by_cases c23 : t133 = (wrap64 (Int.tdiv a0 8))
        ·rw [if_pos c23] at H
         have c23b0 : (t133 == (wrap64 (Int.tdiv a0 8))) = true := beq_iff_eq.mpr c23
         have c23b1 : (t133 != (wrap64 (Int.tdiv a0 8))) = false := bne_eq_false_iff_eq.mpr c23
         clear c23
         by_cases c24 : t135 = (wrap64 (t136 + x8_2))
         ·rw [if_pos c24] at H
          have c24b0 : (t135 == (wrap64 (t136 + x8_2))) = true := beq_iff_eq.mpr c24
          have c24b1 : (t135 != (wrap64 (t136 + x8_2))) = false := bne_eq_false_iff_eq.mpr c24
          clear c24
          by_cases c25 : t136 ≥ 0
          ·rw [if_pos c25] at H
           have c25b0 : decide (0 ≤ t136) = true := decide_eq_true c25
           clear c25
           by_cases c26 : t135 ≤ 256
           ·rw [if_pos c26] at H
            have c26b0 : decide (t135 ≤ 256) = true := decide_eq_true c26
            clear c26
            by_cases c27 : x8_2 = 0
            ·rw [if_pos c27] at H
             exact absurd H (by simp)
            ·rw [if_neg c27] at H
             have c27b0 : (x8_2 == 0) = false := beq_eq_false_iff_ne.mpr c27
             have c27b1 : (x8_2 != 0) = true := bne_iff_ne.mpr c27
             by_cases c28 : (Int.tmod t136 x8_2) = 0
             ·rw [if_pos c28] at H
              have c28b0 : ((Int.tmod t136 x8_2) == 0) = true := beq_iff_eq.mpr c28
              have c28b1 : ((Int.tmod t136 x8_2) != 0) = false := bne_eq_false_iff_eq.mpr c28
              clear c28
              by_cases c29 : (wrap64 ((wrap64 (256 * t134)) + t136)) = (wrap64 (a1 * x8_2))
              ·rw [if_pos c29] at H
               have c29b0 : ((wrap64 ((wrap64 (256 * t134)) + t136)) == (wrap64 (a1 * x8_2))) = true := beq_iff_eq.mpr c29
               have c29b1 : ((wrap64 ((wrap64 (256 * t134)) + t136)) != (wrap64 (a1 * x8_2))) = false := bne_eq_false_iff_eq.mpr c29
               clear c29
               replace H := Option.bind_eq_some_iff.mp H
               obtain ⟨t140, A300, H⟩ := H
               replace H : (some t140) = some r := H
               have A30 := Aside0.mk A300
               clear A300
               obtain rfl := Option.some.inj H
               have hcz31_0 : wr.cell? ⟨gb138, 0, none⟩ = some (.int .i64 t133) := (blk_cell BK138.out 0).trans rfl
               have hcz31_1 : wr.cell? ⟨gb138, 1, none⟩ = some (.int .i64 t134) := (blk_cell BK138.out 1).trans rfl
               have hcz31_2 : wr.cell? ⟨gb138, 2, none⟩ = some (.int .i64 t135) := (blk_cell BK138.out 2).trans rfl
               have hfz31_0 := blk_frozen BK138.out 0
               have hfz31_1 := blk_frozen BK138.out 1
               have hfz31_2 := blk_frozen BK138.out 2
               go_wp2_with (first | (go_at_call 14; (with_reducible refine (pantilelaw12_lives.calls  t140 _ A30.out).mono ?_); rintro e w32 ⟨rfl, hb⟩; have n0_ := Aside0.mk (blk_below (g := gb138) (o := .cells #[.int .i64 t133, .int .i64 t134, .int .i64 t135] 30 (0, 0)) (by (with_reducible repeat (first | refine blk_drewN ?_ _ | refine blk_drew ?_ | refine blk_alloc ?_ _)); exact BK138.out) hb); have n1_ := Aside0.mk (below_step (by repeat (first | (with_reducible first | exact HB.out | apply below_alloc | apply pw_below_drewN | apply below_drew1 | refine below_set ?_ GE138.out) | exact HB.out)) hb); clear BK138; clear HB; have BK138 := n0_; have HB := n1_; clear n0_ n1_; (try clear hb); (try clear hb2); (try clear hk); (try clear hi)))
               go_ret
               exact ⟨by first | rfl | (simp [errW_none, errW_some] <;> rfl) | (simp [*, errW_none, errW_some] <;> rfl), by repeat (first | (with_reducible first | exact HB.out | apply below_alloc | apply pw_below_drewN | apply below_drew1 | refine below_set ?_ GE138.out) | exact HB.out)⟩
              ·rw [if_neg c29] at H
               have c29b0 : ((wrap64 ((wrap64 (256 * t134)) + t136)) == (wrap64 (a1 * x8_2))) = false := beq_eq_false_iff_ne.mpr c29
               have c29b1 : ((wrap64 ((wrap64 (256 * t134)) + t136)) != (wrap64 (a1 * x8_2))) = true := bne_iff_ne.mpr c29
               obtain rfl := Option.some.inj H
               have hcz33_0 : wr.cell? ⟨gb138, 0, none⟩ = some (.int .i64 t133) := (blk_cell BK138.out 0).trans rfl
               have hcz33_1 : wr.cell? ⟨gb138, 1, none⟩ = some (.int .i64 t134) := (blk_cell BK138.out 1).trans rfl
               have hcz33_2 : wr.cell? ⟨gb138, 2, none⟩ = some (.int .i64 t135) := (blk_cell BK138.out 2).trans rfl
               have hfz33_0 := blk_frozen BK138.out 0
               have hfz33_1 := blk_frozen BK138.out 1
               have hfz33_2 := blk_frozen BK138.out 2
               go_wp2
               go_ret
               exact ⟨by first | rfl | (simp [errW_none, errW_some] <;> rfl) | (simp [*, errW_none, errW_some] <;> rfl), by repeat (first | (with_reducible first | exact HB.out | apply below_alloc | apply pw_below_drewN | apply below_drew1 | refine below_set ?_ GE138.out) | exact HB.out)⟩
             ·rw [if_neg c28] at H
              have c28b0 : ((Int.tmod t136 x8_2) == 0) = false := beq_eq_false_iff_ne.mpr c28
              have c28b1 : ((Int.tmod t136 x8_2) != 0) = true := bne_iff_ne.mpr c28
              obtain rfl := Option.some.inj H
              have hcz34_0 : wr.cell? ⟨gb138, 0, none⟩ = some (.int .i64 t133) := (blk_cell BK138.out 0).trans rfl
              have hcz34_1 : wr.cell? ⟨gb138, 1, none⟩ = some (.int .i64 t134) := (blk_cell BK138.out 1).trans rfl
              have hcz34_2 : wr.cell? ⟨gb138, 2, none⟩ = some (.int .i64 t135) := (blk_cell BK138.out 2).trans rfl
              have hfz34_0 := blk_frozen BK138.out 0
              have hfz34_1 := blk_frozen BK138.out 1
              have hfz34_2 := blk_frozen BK138.out 2
              go_wp2
              go_ret
              exact ⟨by first | rfl | (simp [errW_none, errW_some] <;> rfl) | (simp [*, errW_none, errW_some] <;> rfl), by repeat (first | (with_reducible first | exact HB.out | apply below_alloc | apply pw_below_drewN | apply below_drew1 | refine below_set ?_ GE138.out) | exact HB.out)⟩
           ·rw [if_neg c26] at H
            have c26b0 : decide (t135 ≤ 256) = false := decide_eq_false c26
            clear c26
            obtain rfl := Option.some.inj H
            have hcz35_0 : wr.cell? ⟨gb138, 0, none⟩ = some (.int .i64 t133) := (blk_cell BK138.out 0).trans rfl
            have hcz35_1 : wr.cell? ⟨gb138, 1, none⟩ = some (.int .i64 t134) := (blk_cell BK138.out 1).trans rfl
            have hcz35_2 : wr.cell? ⟨gb138, 2, none⟩ = some (.int .i64 t135) := (blk_cell BK138.out 2).trans rfl
            have hfz35_0 := blk_frozen BK138.out 0
            have hfz35_1 := blk_frozen BK138.out 1
            have hfz35_2 := blk_frozen BK138.out 2
            go_wp2
            go_ret
            exact ⟨by first | rfl | (simp [errW_none, errW_some] <;> rfl) | (simp [*, errW_none, errW_some] <;> rfl), by repeat (first | (with_reducible first | exact HB.out | apply below_alloc | apply pw_below_drewN | apply below_drew1 | refine below_set ?_ GE138.out) | exact HB.out)⟩
          ·rw [if_neg c25] at H
           have c25b0 : decide (0 ≤ t136) = false := decide_eq_false c25
           clear c25
           obtain rfl := Option.some.inj H
           have hcz36_0 : wr.cell? ⟨gb138, 0, none⟩ = some (.int .i64 t133) := (blk_cell BK138.out 0).trans rfl
           have hcz36_1 : wr.cell? ⟨gb138, 1, none⟩ = some (.int .i64 t134) := (blk_cell BK138.out 1).trans rfl
           have hcz36_2 : wr.cell? ⟨gb138, 2, none⟩ = some (.int .i64 t135) := (blk_cell BK138.out 2).trans rfl
           have hfz36_0 := blk_frozen BK138.out 0
           have hfz36_1 := blk_frozen BK138.out 1
           have hfz36_2 := blk_frozen BK138.out 2
           go_wp2
           go_ret
           exact ⟨by first | rfl | (simp [errW_none, errW_some] <;> rfl) | (simp [*, errW_none, errW_some] <;> rfl), by repeat (first | (with_reducible first | exact HB.out | apply below_alloc | apply pw_below_drewN | apply below_drew1 | refine below_set ?_ GE138.out) | exact HB.out)⟩
         ·rw [if_neg c24] at H
          have c24b0 : (t135 == (wrap64 (t136 + x8_2))) = false := beq_eq_false_iff_ne.mpr c24
          have c24b1 : (t135 != (wrap64 (t136 + x8_2))) = true := bne_iff_ne.mpr c24
          obtain rfl := Option.some.inj H
          have hcz37_0 : wr.cell? ⟨gb138, 0, none⟩ = some (.int .i64 t133) := (blk_cell BK138.out 0).trans rfl
          have hcz37_1 : wr.cell? ⟨gb138, 1, none⟩ = some (.int .i64 t134) := (blk_cell BK138.out 1).trans rfl
          have hcz37_2 : wr.cell? ⟨gb138, 2, none⟩ = some (.int .i64 t135) := (blk_cell BK138.out 2).trans rfl
          have hfz37_0 := blk_frozen BK138.out 0
          have hfz37_1 := blk_frozen BK138.out 1
          have hfz37_2 := blk_frozen BK138.out 2
          go_wp2
          go_ret
          exact ⟨by first | rfl | (simp [errW_none, errW_some] <;> rfl) | (simp [*, errW_none, errW_some] <;> rfl), by repeat (first | (with_reducible first | exact HB.out | apply below_alloc | apply pw_below_drewN | apply below_drew1 | refine below_set ?_ GE138.out) | exact HB.out)⟩
        ·rw [if_neg c23] at H
         have c23b0 : (t133 == (wrap64 (Int.tdiv a0 8))) = false := beq_eq_false_iff_ne.mpr c23
         have c23b1 : (t133 != (wrap64 (Int.tdiv a0 8))) = true := bne_iff_ne.mpr c23
         obtain rfl := Option.some.inj H
         have hcz38_0 : wr.cell? ⟨gb138, 0, none⟩ = some (.int .i64 t133) := (blk_cell BK138.out 0).trans rfl
         have hcz38_1 : wr.cell? ⟨gb138, 1, none⟩ = some (.int .i64 t134) := (blk_cell BK138.out 1).trans rfl
         have hcz38_2 : wr.cell? ⟨gb138, 2, none⟩ = some (.int .i64 t135) := (blk_cell BK138.out 2).trans rfl
         have hfz38_0 := blk_frozen BK138.out 0
         have hfz38_1 := blk_frozen BK138.out 1
         have hfz38_2 := blk_frozen BK138.out 2
         go_wp2
         go_ret
         exact ⟨by first | rfl | (simp [errW_none, errW_some] <;> rfl) | (simp [*, errW_none, errW_some] <;> rfl), by repeat (first | (with_reducible first | exact HB.out | apply below_alloc | apply pw_below_drewN | apply below_drew1 | refine below_set ?_ GE138.out) | exact HB.out)⟩
       ·rw [if_neg c22] at H
        have c22b0 : (t137 == 0) = false := beq_eq_false_iff_ne.mpr c22
        have c22b1 : (t137 != 0) = true := bne_iff_ne.mpr c22
        obtain rfl := Option.some.inj H
        have hcz39_0 : wr.cell? ⟨gb138, 0, none⟩ = some (.int .i64 t133) := (blk_cell BK138.out 0).trans rfl
        have hcz39_1 : wr.cell? ⟨gb138, 1, none⟩ = some (.int .i64 t134) := (blk_cell BK138.out 1).trans rfl
        have hcz39_2 : wr.cell? ⟨gb138, 2, none⟩ = some (.int .i64 t135) := (blk_cell BK138.out 2).trans rfl
        have hfz39_0 := blk_frozen BK138.out 0
        have hfz39_1 := blk_frozen BK138.out 1
        have hfz39_2 := blk_frozen BK138.out 2
        go_wp2
        go_ret
        exact ⟨by first | rfl | (simp [errW_none, errW_some] <;> rfl) | (simp [*, errW_none, errW_some] <;> rfl), by repeat (first | (with_reducible first | exact HB.out | apply below_alloc | apply pw_below_drewN | apply below_drew1 | refine below_set ?_ GE138.out) | exact HB.out)⟩

/-- THE ONE PURE STATEMENT of pantilelaw12_TilesPlace: yours. -/
def pantilelaw12_TilesPlace.Pure : Prop := ∀ (a0 : Int) (a1 : Int), (Lit.int .i64 a0).wf = true → (Lit.int .i64 a1).wf = true → ∃ k, pantilelaw12_TilesPlace.f k a0 a1 = some true
theorem pantilelaw12_TilesPlace.walk (P : pantilelaw12_TilesPlace.Pure) (a0 : Int) (a1 : Int) (w : World) (w0 : (Lit.int .i64 a0).wf = true) (w1 : (Lit.int .i64 a1).wf = true) :
  Calls Try.prog 4 #[.int .i64 a0, .int .i64 a1] w fun e w' => e = .returned (.bool true) ∧ Below w.heap.size w w' := by
 obtain ⟨k, h⟩ := P a0 a1 w0 w1
 refine (pantilelaw12_TilesPlace.calls k a0 a1 true w h).mono ?_
 rintro e w' ⟨rfl, hd⟩
 exact ⟨rfl, hd⟩

end Go.Proofs.Ytoeibcdnhglobaa.P
