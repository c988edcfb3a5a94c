/- pantileref01: three: the walk. Printed by wip/tools/genrefb.py. -/
import Derived.Test.YtoeibcdnhglobaaDoorGQuietC
namespace Go.Proofs.YtoeibcdnhglobaaDoor.P
set_option linter.unusedVariables false
set_option linter.unusedSimpArgs false
open Go.RowKit Go.Shelf Go.Proofs.YtoeibcdnhglobaaDoorW.PrintWords Go.Proofs.YtoeibcdnhglobaaDoorW.PrintLast Go.Proofs.YtoeibcdnhglobaaDoorW.PrintMore
open Go.Proofs.YtoeibcdnhglobaaDoor.Pure

theorem bits_xor_u64N (a b : Nat) (ha : a < 4294967296) (hb : b < 4294967296) : bits .xor .u64 (a : Int) (b : Int) = ((a ^^^ b : Nat) : Int) := bits_xor_u64_nat a b (by omega) (by omega)
/-- Three words of a row are read. -/
structure Row3 (w : World) (g : Nat) (a b c : Nat) : Prop where
  c0 : w.cell? ⟨g, 0, none⟩ = some (.int .i64 a)
  c1 : w.cell? ⟨g, 1, none⟩ = some (.int .i64 b)
  c2 : w.cell? ⟨g, 2, none⟩ = some (.int .i64 c)
theorem Row3.lt {w : World} {g a b c : Nat} (h : Row3 w g a b c) : g < w.heap.size := World.block_lt_of_cell? w ⟨g, 0, none⟩ h.c0
theorem Row3.below {w w' : World} {g a b c B : Nat} (h : Row3 w g a b c) (hb : Below B w w') (hg : g < B) : Row3 w' g a b c :=
  ⟨(hb.cell (p := ⟨g, 0, none⟩) hg).trans h.c0, (hb.cell (p := ⟨g, 1, none⟩) hg).trans h.c1, (hb.cell (p := ⟨g, 2, none⟩) hg).trans h.c2⟩
/-- The receiver's box. -/
def WBox (W : World) (B : Nat) (A2 A3 A4 A5 A6 A7 : Option Addr) (c2 c3 c4 c5 c6 c7 n6 n7 : Nat) : Prop :=
  W.heap[B]? = some (.cells #[.int .i64 32, .int .i64 64, .slice A2 3 c2, .slice A3 3 c3, .slice A4 3 c4, .slice A5 3 c5, .slice A6 n6 c6, .slice A7 n7 c7] 144 (0, 0))
section
variable {W : World} {B : Nat} {A2 A3 A4 A5 A6 A7 : Option Addr} {c2 c3 c4 c5 c6 c7 n6 n7 : Nat}
theorem WBox.cells (h : WBox W B A2 A3 A4 A5 A6 A7 c2 c3 c4 c5 c6 c7 n6 n7) : W.cell? ⟨B, 0, none⟩ = some (.int .i64 32) ∧ W.cell? ⟨B, 1, none⟩ = some (.int .i64 64) ∧ W.cell? ⟨B, 2, none⟩ = some (.slice A2 3 c2) ∧ W.cell? ⟨B, 3, none⟩ = some (.slice A3 3 c3) ∧
    W.cell? ⟨B, 4, none⟩ = some (.slice A4 3 c4) ∧ W.cell? ⟨B, 5, none⟩ = some (.slice A5 3 c5) ∧ W.cell? ⟨B, 6, none⟩ = some (.slice A6 n6 c6) ∧ W.cell? ⟨B, 7, none⟩ = some (.slice A7 n7 c7) := by
  refine ⟨?_, ?_, ?_, ?_, ?_, ?_, ?_, ?_⟩ <;> simp [World.cell?, show W.heap[B]? = _ from h]
theorem WBox.lt (h : WBox W B A2 A3 A4 A5 A6 A7 c2 c3 c4 c5 c6 c7 n6 n7) : B < W.heap.size := (Array.getElem?_eq_some_iff.1 h).1
theorem WBox.below {W' : World} {N : Nat} (h : WBox W B A2 A3 A4 A5 A6 A7 c2 c3 c4 c5 c6 c7 n6 n7) (hb : Below N W W') (hN : B < N) : WBox W' B A2 A3 A4 A5 A6 A7 c2 c3 c4 c5 c6 c7 n6 n7 := (hb.block B hN).trans h
theorem WBox.new (w : World) : WBox (w.alloc (.cells #[.int .i64 32, .int .i64 64, .slice A2 3 c2, .slice A3 3 c3, .slice A4 3 c4, .slice A5 3 c5, .slice A6 n6 c6, .slice A7 n7 c7] 144)) w.heap.size A2 A3 A4 A5 A6 A7 c2 c3 c4 c5 c6 c7 n6 n7 := heap_alloc_new w _
end
set_option maxRecDepth 100000 in
set_option maxHeartbeats 4000000 in
theorem three_f (A2 A3 A4 A5 A6 A7 : Option Addr) (c2 c3 c4 c5 c6 c7 n6 n7 : Nat) (x : Nat) (hx : x < 4294967296) (g a b c cc : Nat) (ha : 1 ≤ a ∧ a ≤ 31) (hb : 1 ≤ b ∧ b ≤ 31) (hc : 1 ≤ c ∧ c ≤ 31) (w : World) (hr : Row3 w g a b c) :
    Calls Tryd.prog 155 #[.agg #[.int .i64 32, .int .i64 64, .slice A2 3 c2, .slice A3 3 c3, .slice A4 3 c4, .slice A5 3 c5, .slice A6 n6 c6, .slice A7 n7 c7], .int .u64 x, .slice (some ⟨g, 0, none⟩) 3 cc, .bool false] w fun e w' => e = .returned (.int .u64 (sig a b c x : Nat)) ∧ Below w.heap.size w w' := by
  have ka := fun w => turn_calls A2 A3 A4 A5 A6 A7 c2 c3 c4 c5 c6 c7 n6 n7 x a hx ha.1 ha.2 w
  have kb := fun w => turn_calls A2 A3 A4 A5 A6 A7 c2 c3 c4 c5 c6 c7 n6 n7 x b hx hb.1 hb.2 w
  have kc := fun w => turn_calls A2 A3 A4 A5 A6 A7 c2 c3 c4 c5 c6 c7 n6 n7 x c hx hc.1 hc.2 w
  have e1 := bits_xor_u64N (rotr a x) (rotr b x) (rotr_lt a x (by omega) hx) (rotr_lt b x (by omega) hx)
  have e2 : bits .xor .u64 ((rotr a x ^^^ rotr b x : Nat) : Int) ((rotr c x : Nat) : Int) = ((sig a b c x : Nat) : Int) := bits_xor_u64N _ _ (Nat.xor_lt_two_pow (n := 32) (rotr_lt a x (by omega) hx) (rotr_lt b x (by omega) hx)) (rotr_lt c x (by omega) hx)
  obtain ⟨n0, hn0⟩ : ∃ n0, w.heap.size = n0 := ⟨_, rfl⟩
  have HR := Lib.hid hr
  clear hr hx ha hb hc
  go_enter Tryd.func155, Tryd.ntmps155
  go_wp2
  refine at_world (fun W0 => WBox W0 n0 A2 A3 A4 A5 A6 A7 c2 c3 c4 c5 c6 c7 n6 n7 ∧ Row3 W0 g a b c ∧ Below n0 w W0) ⟨hn0 ▸ WBox.new w, HR.out.below ((Below.refl _ w).alloc (Nat.le_refl _) _) HR.out.lt, (Below.refl n0 w).alloc (Nat.le_of_eq hn0.symm) _⟩ ?_
  rintro W1 ⟨hbx, hr1, hb1⟩
  obtain ⟨q0, q1, q2, q3, q4, q5, q6, q7⟩ := hbx.cells
  have p0 := hr1.c0
  have p1 := hr1.c1
  have p2 := hr1.c2
  have hl1 := hbx.lt
  have hl2 := hr1.lt
  have HBX := Lib.hid hbx
  have HR1 := Lib.hid hr1
  have HB1 := Lib.hid hb1
  clear hbx hr1 hb1
  refine wp_region_below rfl (by kernel_rfl) (by kernel_rfl) ?_
  repeat (first
    | (refine wpQuietIn_go (v := ?_) (a' := ?_) rfl (fun _ => trivial) (fun w' hC => qval ?_) rfl ?_ ?_; rotate_left; rotate_left; (have kc := bcell hC; go_simp; with_reducible rfl); (simp only [Act.put, List.setIfInBounds_toArray, List.set_cons_zero, List.set_cons_succ, i64_w, i32_w]; rfl))
    | (refine wpQuietIn_go (v := .int .u64 (rotr c x : Nat)) (a' := ?_) rfl (fun _ => trivial) (fun w' hC => bqcall 162 #[.agg #[.int .i64 32, .int .i64 64, .slice A2 3 c2, .slice A3 3 c3, .slice A4 3 c4, .slice A5 3 c5, .slice A6 n6 c6, .slice A7 n7 c7], .int .u64 x, .int .i64 (c : Nat)] ?_ hC (kc w')) rfl ?_ ?_; rotate_left; go_simp; (simp only [Act.put, List.setIfInBounds_toArray, List.set_cons_zero, List.set_cons_succ, i64_w, i32_w]; rfl)))
  refine wpQuietIn_nil ?_
  intro W2 hb2
  have hbx := HBX.out.below hb2 hl1
  have hr2 := HR1.out.below hb2 hl2
  have hbw := HB1.out.trans (hb2.mono (by have := HB1.out.size; omega))
  clear q0 q1 q2 q3 q4 q5 q6 q7 p0 p1 p2 hl1 hl2 hb2
  obtain ⟨q0, q1, q2, q3, q4, q5, q6, q7⟩ := hbx.cells
  have p0 := hr2.c0
  have p1 := hr2.c1
  have p2 := hr2.c2
  have hl1 := hbx.lt
  have hl2 := hr2.lt
  have HBW := Lib.hid hbw
  clear hbx hr2 hbw
  go_wp2
  refine wp_region_below rfl (by kernel_rfl) (by kernel_rfl) ?_
  repeat (first
    | (refine wpQuietIn_go (v := ?_) (a' := ?_) rfl (fun _ => trivial) (fun w' hC => qval ?_) rfl ?_ ?_; rotate_left; rotate_left; (have kc := bcell hC; go_simp; with_reducible rfl); (simp only [Act.put, List.setIfInBounds_toArray, List.set_cons_zero, List.set_cons_succ, i64_w, i32_w]; rfl))
    | (refine wpQuietIn_go (v := .int .u64 (rotr a x : Nat)) (a' := ?_) rfl (fun _ => trivial) (fun w' hC => bqcall 162 #[.agg #[.int .i64 32, .int .i64 64, .slice A2 3 c2, .slice A3 3 c3, .slice A4 3 c4, .slice A5 3 c5, .slice A6 n6 c6, .slice A7 n7 c7], .int .u64 x, .int .i64 (a : Nat)] ?_ hC (ka w')) rfl ?_ ?_; rotate_left; go_simp; (simp only [Act.put, List.setIfInBounds_toArray, List.set_cons_zero, List.set_cons_succ, i64_w, i32_w]; rfl))
    | (refine wpQuietIn_go (v := .int .u64 (rotr b x : Nat)) (a' := ?_) rfl (fun _ => trivial) (fun w' hC => bqcall 162 #[.agg #[.int .i64 32, .int .i64 64, .slice A2 3 c2, .slice A3 3 c3, .slice A4 3 c4, .slice A5 3 c5, .slice A6 n6 c6, .slice A7 n7 c7], .int .u64 x, .int .i64 (b : Nat)] ?_ hC (kb w')) rfl ?_ ?_; rotate_left; go_simp; (simp only [Act.put, List.setIfInBounds_toArray, List.set_cons_zero, List.set_cons_succ, i64_w, i32_w]; rfl)))
  refine wpQuietIn_nil ?_
  intro W3 hb3
  have hbw := HBW.out.trans (hb3.mono (by have := HBW.out.size; omega))
  clear q0 q1 q2 q3 q4 q5 q6 q7 p0 p1 p2 hl1 hl2 hb3
  go_wp2
  go_ret
  exact ⟨rfl, hn0 ▸ hbw⟩
set_option maxRecDepth 100000 in
set_option maxHeartbeats 4000000 in
theorem three_t (A2 A3 A4 A5 A6 A7 : Option Addr) (c2 c3 c4 c5 c6 c7 n6 n7 : Nat) (x : Nat) (hx : x < 4294967296) (g a b c cc : Nat) (ha : 1 ≤ a ∧ a ≤ 31) (hb : 1 ≤ b ∧ b ≤ 31) (hc : 1 ≤ c ∧ c ≤ 31) (w : World) (hr : Row3 w g a b c) :
    Calls Tryd.prog 155 #[.agg #[.int .i64 32, .int .i64 64, .slice A2 3 c2, .slice A3 3 c3, .slice A4 3 c4, .slice A5 3 c5, .slice A6 n6 c6, .slice A7 n7 c7], .int .u64 x, .slice (some ⟨g, 0, none⟩) 3 cc, .bool true] w fun e w' => e = .returned (.int .u64 (sigS a b c x : Nat)) ∧ Below w.heap.size w w' := by
  have ka := fun w => turn_calls A2 A3 A4 A5 A6 A7 c2 c3 c4 c5 c6 c7 n6 n7 x a hx ha.1 ha.2 w
  have kb := fun w => turn_calls A2 A3 A4 A5 A6 A7 c2 c3 c4 c5 c6 c7 n6 n7 x b hx hb.1 hb.2 w
  have kc := fun w => turn_calls A2 A3 A4 A5 A6 A7 c2 c3 c4 c5 c6 c7 n6 n7 x c hx hc.1 hc.2 w
  have e1 := bits_xor_u64N (rotr a x) (rotr b x) (rotr_lt a x (by omega) hx) (rotr_lt b x (by omega) hx)
  obtain ⟨p, hp⟩ : ∃ p, p = 2 ^ c := ⟨_, rfl⟩
  obtain ⟨Z, hZ⟩ : ∃ Z, Z = x / p := ⟨_, rfl⟩
  have hp0 : 0 < p := hp ▸ Nat.two_pow_pos c
  have kd := fun w => bit_calls c (by omega) p hp w
  have hZlt : Z < 4294967296 := by rw [hZ]; exact Nat.lt_of_le_of_lt (Nat.div_le_self _ _) hx
  have ez : (x : Int) / (p : Int) = (Z : Int) := by rw [hZ]; norm_cast
  have z1 : ((p : Int) == 0) = false := beq_eq_false_iff_ne.2 (by omega)
  have w1 : IntKind.u64.wrap (Z : Int) = (Z : Int) := by rw [IntKind.wrap_u64]; omega
  have e2 : bits .xor .u64 ((rotr a x ^^^ rotr b x : Nat) : Int) (Z : Int) = ((sigS a b c x : Nat) : Int) := by
    rw [bits_xor_u64N _ _ (Nat.xor_lt_two_pow (n := 32) (rotr_lt a x (by omega) hx) (rotr_lt b x (by omega) hx)) hZlt, hZ, hp]
    rfl
  clear hZ hp
  obtain ⟨n0, hn0⟩ : ∃ n0, w.heap.size = n0 := ⟨_, rfl⟩
  have HR := Lib.hid hr
  clear hr hx ha hb hc
  go_enter Tryd.func155, Tryd.ntmps155
  go_wp2
  refine at_world (fun W0 => WBox W0 n0 A2 A3 A4 A5 A6 A7 c2 c3 c4 c5 c6 c7 n6 n7 ∧ Row3 W0 g a b c ∧ Below n0 w W0) ⟨hn0 ▸ WBox.new w, HR.out.below ((Below.refl _ w).alloc (Nat.le_refl _) _) HR.out.lt, (Below.refl n0 w).alloc (Nat.le_of_eq hn0.symm) _⟩ ?_
  rintro W1 ⟨hbx, hr1, hb1⟩
  obtain ⟨q0, q1, q2, q3, q4, q5, q6, q7⟩ := hbx.cells
  have p0 := hr1.c0
  have p1 := hr1.c1
  have p2 := hr1.c2
  have hl1 := hbx.lt
  have hl2 := hr1.lt
  have HBX := Lib.hid hbx
  have HR1 := Lib.hid hr1
  have HB1 := Lib.hid hb1
  clear hbx hr1 hb1
  refine wp_region_below rfl (by kernel_rfl) (by kernel_rfl) ?_
  repeat (first
    | (refine wpQuietIn_go (v := ?_) (a' := ?_) rfl (fun _ => trivial) (fun w' hC => qval ?_) rfl ?_ ?_; rotate_left; rotate_left; (have kc := bcell hC; go_simp; with_reducible rfl); (simp only [Act.put, List.setIfInBounds_toArray, List.set_cons_zero, List.set_cons_succ, i64_w, i32_w]; rfl))
    | (refine wpQuietIn_go (v := .int .u64 (rotr c x : Nat)) (a' := ?_) rfl (fun _ => trivial) (fun w' hC => bqcall 162 #[.agg #[.int .i64 32, .int .i64 64, .slice A2 3 c2, .slice A3 3 c3, .slice A4 3 c4, .slice A5 3 c5, .slice A6 n6 c6, .slice A7 n7 c7], .int .u64 x, .int .i64 (c : Nat)] ?_ hC (kc w')) rfl ?_ ?_; rotate_left; go_simp; (simp only [Act.put, List.setIfInBounds_toArray, List.set_cons_zero, List.set_cons_succ, i64_w, i32_w]; rfl)))
  refine wpQuietIn_nil ?_
  intro W2 hb2
  have hbx := HBX.out.below hb2 hl1
  have hr2 := HR1.out.below hb2 hl2
  have hbw := HB1.out.trans (hb2.mono (by have := HB1.out.size; omega))
  clear q0 q1 q2 q3 q4 q5 q6 q7 p0 p1 p2 hl1 hl2 hb2
  obtain ⟨q0, q1, q2, q3, q4, q5, q6, q7⟩ := hbx.cells
  have p0 := hr2.c0
  have p1 := hr2.c1
  have p2 := hr2.c2
  have hl1 := hbx.lt
  have hl2 := hr2.lt
  have HBW := Lib.hid hbw
  clear hbx hr2 hbw
  go_wp2_with (go_at_call 163; with_reducible refine (kd _).mono ?_; rintro e w9 ⟨rfl, hw9⟩; rw [hw9]; clear hw9 w9)
  refine wp_region_below rfl (by kernel_rfl) (by kernel_rfl) ?_
  repeat (first
    | (refine wpQuietIn_go (v := ?_) (a' := ?_) rfl (fun _ => trivial) (fun w' hC => qval ?_) rfl ?_ ?_; rotate_left; rotate_left; (have kc := bcell hC; go_simp; with_reducible rfl); (simp only [Act.put, List.setIfInBounds_toArray, List.set_cons_zero, List.set_cons_succ, i64_w, i32_w]; rfl))
    | (refine wpQuietIn_go (v := .int .u64 (rotr a x : Nat)) (a' := ?_) rfl (fun _ => trivial) (fun w' hC => bqcall 162 #[.agg #[.int .i64 32, .int .i64 64, .slice A2 3 c2, .slice A3 3 c3, .slice A4 3 c4, .slice A5 3 c5, .slice A6 n6 c6, .slice A7 n7 c7], .int .u64 x, .int .i64 (a : Nat)] ?_ hC (ka w')) rfl ?_ ?_; rotate_left; go_simp; (simp only [Act.put, List.setIfInBounds_toArray, List.set_cons_zero, List.set_cons_succ, i64_w, i32_w]; rfl))
    | (refine wpQuietIn_go (v := .int .u64 (rotr b x : Nat)) (a' := ?_) rfl (fun _ => trivial) (fun w' hC => bqcall 162 #[.agg #[.int .i64 32, .int .i64 64, .slice A2 3 c2, .slice A3 3 c3, .slice A4 3 c4, .slice A5 3 c5, .slice A6 n6 c6, .slice A7 n7 c7], .int .u64 x, .int .i64 (b : Nat)] ?_ hC (kb w')) rfl ?_ ?_; rotate_left; go_simp; (simp only [Act.put, List.setIfInBounds_toArray, List.set_cons_zero, List.set_cons_succ, i64_w, i32_w]; rfl)))
  refine wpQuietIn_nil ?_
  intro W3 hb3
  have hbw := HBW.out.trans (hb3.mono (by have := HBW.out.size; omega))
  clear q0 q1 q2 q3 q4 q5 q6 q7 p0 p1 p2 hl1 hl2 hb3
  go_wp2
  go_ret
  exact ⟨rfl, hn0 ▸ hbw⟩
end Go.Proofs.YtoeibcdnhglobaaDoor.P
