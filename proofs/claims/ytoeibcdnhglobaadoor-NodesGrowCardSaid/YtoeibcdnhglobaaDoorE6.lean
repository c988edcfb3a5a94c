/- Texts of the seat, joined: GSum, GSum256, GDigest. -/
import Derived.Test.YtoeibcdnhglobaaDoorGWrite
/- (*digest.Hash).Sum: the walk. Printed by wip/tools/gensum.py. -/
namespace Go.Proofs.YtoeibcdnhglobaaDoor.P
set_option linter.unusedVariables false
set_option linter.unusedSimpArgs false
open Go.RowKit Go.Shelf Go.Proofs.YtoeibcdnhglobaaDoorW.PrintWords Go.Proofs.YtoeibcdnhglobaaDoorW.PrintLast Go.Proofs.YtoeibcdnhglobaaDoorW.PrintMore
open Go.Proofs.YtoeibcdnhglobaaDoor.Pure
attribute [local go_sem] Oper.semAt_some

/-- Between two rounds of Sum: the state's copy lies at block ns, the padded bytes are owned, the loop's boxes lie from n1 on. -/
structure Su (B ns n1 : Nat) (s : List Nat) (v : Value) (T : List Int) (w W : World) : Prop where
  arr : Arr W ns 161 s
  own : OwnB W B v T
  bel : Below B w W
  lt : B ≤ ns ∧ ns < n1 ∧ (∀ g, v.ownBlock = some g → g < n1 ∧ g ≠ ns) ∧ n1 + 2 ≤ W.heap.size
theorem Su.far {B ns n1 : Nat} {s : List Nat} {v : Value} {T : List Int} {w W W' : World} (h : Su B ns n1 s v T w W) {S : Nat → Prop} (ht : Touch S W W') (hS : ∀ k, S k → n1 ≤ k) : Su B ns n1 s v T w W' :=
  ⟨ht.blk h.arr (fun e => by have := hS _ e; have := h.lt; omega), own_blk h.own fun g hg => ht.block g (h.own.lt g hg).2 (fun e => by have := hS _ e; have := (h.lt.2.2.1 g hg).1; omega),
   h.bel.trans (ht.to_below (by have := h.lt; omega) (fun k e => by have := hS _ e; have := h.lt; omega)), ⟨h.lt.1, h.lt.2.1, h.lt.2.2.1, Nat.le_trans h.lt.2.2.2 ht.size⟩⟩
theorem Su.setS {B ns n1 : Nat} {s : List Nat} {v : Value} {T : List Int} {w W : World} (h : Su B ns n1 s v T w W) (i x : Nat) : Su B ns n1 (s.set i x) v T w (W.setCell ⟨ns, i, none⟩ (.int .u32 x)) :=
  ⟨h.arr.set i x, own_blk h.own fun g hg => Below.heap_setCell _ _ _ _ (h.lt.2.2.1 g hg).2, h.bel.setCell (p := ⟨ns, i, none⟩) h.lt.1 _, ⟨h.lt.1, h.lt.2.1, h.lt.2.2.1, by simp [World.setCell]; exact h.lt.2.2.2⟩⟩
theorem ixS0 (r0 r1 r2 r3 r4 r5 r6 r7 : Int) (w : World) : (Instr.index 161 (.agg #[.int .u32 r0, .int .u32 r1, .int .u32 r2, .int .u32 r3, .int .u32 r4, .int .u32 r5, .int .u32 r6, .int .u32 r7]) (.int .i64 0)).run Tryd.prog w = .ok (.int .u32 r0) w := by kernel_rfl
theorem ixS1 (r0 r1 r2 r3 r4 r5 r6 r7 : Int) (w : World) : (Instr.index 161 (.agg #[.int .u32 r0, .int .u32 r1, .int .u32 r2, .int .u32 r3, .int .u32 r4, .int .u32 r5, .int .u32 r6, .int .u32 r7]) (.int .i64 1)).run Tryd.prog w = .ok (.int .u32 r1) w := by kernel_rfl
theorem ixS2 (r0 r1 r2 r3 r4 r5 r6 r7 : Int) (w : World) : (Instr.index 161 (.agg #[.int .u32 r0, .int .u32 r1, .int .u32 r2, .int .u32 r3, .int .u32 r4, .int .u32 r5, .int .u32 r6, .int .u32 r7]) (.int .i64 2)).run Tryd.prog w = .ok (.int .u32 r2) w := by kernel_rfl
theorem ixS3 (r0 r1 r2 r3 r4 r5 r6 r7 : Int) (w : World) : (Instr.index 161 (.agg #[.int .u32 r0, .int .u32 r1, .int .u32 r2, .int .u32 r3, .int .u32 r4, .int .u32 r5, .int .u32 r6, .int .u32 r7]) (.int .i64 3)).run Tryd.prog w = .ok (.int .u32 r3) w := by kernel_rfl
theorem ixS4 (r0 r1 r2 r3 r4 r5 r6 r7 : Int) (w : World) : (Instr.index 161 (.agg #[.int .u32 r0, .int .u32 r1, .int .u32 r2, .int .u32 r3, .int .u32 r4, .int .u32 r5, .int .u32 r6, .int .u32 r7]) (.int .i64 4)).run Tryd.prog w = .ok (.int .u32 r4) w := by kernel_rfl
theorem ixS5 (r0 r1 r2 r3 r4 r5 r6 r7 : Int) (w : World) : (Instr.index 161 (.agg #[.int .u32 r0, .int .u32 r1, .int .u32 r2, .int .u32 r3, .int .u32 r4, .int .u32 r5, .int .u32 r6, .int .u32 r7]) (.int .i64 5)).run Tryd.prog w = .ok (.int .u32 r5) w := by kernel_rfl
theorem ixS6 (r0 r1 r2 r3 r4 r5 r6 r7 : Int) (w : World) : (Instr.index 161 (.agg #[.int .u32 r0, .int .u32 r1, .int .u32 r2, .int .u32 r3, .int .u32 r4, .int .u32 r5, .int .u32 r6, .int .u32 r7]) (.int .i64 6)).run Tryd.prog w = .ok (.int .u32 r6) w := by kernel_rfl
theorem ixS7 (r0 r1 r2 r3 r4 r5 r6 r7 : Int) (w : World) : (Instr.index 161 (.agg #[.int .u32 r0, .int .u32 r1, .int .u32 r2, .int .u32 r3, .int .u32 r4, .int .u32 r5, .int .u32 r6, .int .u32 r7]) (.int .i64 7)).run Tryd.prog w = .ok (.int .u32 r7) w := by kernel_rfl
theorem ixS (r0 r1 r2 r3 r4 r5 r6 r7 i : Nat) (hi : i < 8) (w : World) :
    (Instr.index 161 (.agg #[.int .u32 (r0 : Int), .int .u32 (r1 : Int), .int .u32 (r2 : Int), .int .u32 (r3 : Int), .int .u32 (r4 : Int), .int .u32 (r5 : Int), .int .u32 (r6 : Int), .int .u32 (r7 : Int)]) (.int .i64 i)).run Tryd.prog w = .ok (.int .u32 ([r0, r1, r2, r3, r4, r5, r6, r7].getD i 0 : Nat)) w := by
  have hc : i = 0 ∨ i = 1 ∨ i = 2 ∨ i = 3 ∨ i = 4 ∨ i = 5 ∨ i = 6 ∨ i = 7 := by omega
  rcases hc with rfl | rfl | rfl | rfl | rfl | rfl | rfl | rfl
  · exact ixS0 r0 r1 r2 r3 r4 r5 r6 r7 w
  · exact ixS1 r0 r1 r2 r3 r4 r5 r6 r7 w
  · exact ixS2 r0 r1 r2 r3 r4 r5 r6 r7 w
  · exact ixS3 r0 r1 r2 r3 r4 r5 r6 r7 w
  · exact ixS4 r0 r1 r2 r3 r4 r5 r6 r7 w
  · exact ixS5 r0 r1 r2 r3 r4 r5 r6 r7 w
  · exact ixS6 r0 r1 r2 r3 r4 r5 r6 r7 w
  · exact ixS7 r0 r1 r2 r3 r4 r5 r6 r7 w
theorem b4_eq (X : Nat) : b4 X = [(X : Int) / 16777216 % 256, (X : Int) / 65536 % 256, (X : Int) / 256 % 256, (X : Int) % 256] := by simp [b4]
theorem reads_lit (W : World) (ys : List Int) (h : ys.length ≤ 9223372036854775807) : ReadsInt (W.alloc (.cells (nums .u8 ys).toArray 5)) .u8 (some ⟨W.heap.size, 0, none⟩) ys.length ys :=
  own_reads' (own_lit W 0 5 .u8 ys (Nat.zero_le _) h)

set_option maxRecDepth 100000 in
set_option maxHeartbeats 8000000 in
theorem Sum_calls (w : World) (b : Nat) (l : List Int) (v : Value) (h : Dig w b l v) (hlen : l.length < 1099511627776) (hb : ∀ x ∈ l, 0 ≤ x ∧ x < 256) (hK : KTab w) :
    Calls Tryd.prog 114 #[.pointer (some ⟨b, 0, none⟩)] w fun e w' => ∃ v', e = .returned v' ∧ OwnB w' w.heap.size v' (shaN l) ∧ Below w.heap.size w w' := by
  obtain ⟨n0, hn0⟩ : ∃ n0, w.heap.size = n0 := ⟨_, rfl⟩
  obtain ⟨st, hst⟩ : ∃ st, st = runB H32 l (l.length / 64) := ⟨_, rfl⟩
  obtain ⟨rest, hrest⟩ : ∃ rest, rest = l.drop (64 * (l.length / 64)) := ⟨_, rfl⟩
  have hstok := runB_ok H32 l H32_ok (l.length / 64)
  have hH := h.blk
  have hO := h.own
  rw [← hst] at hstok hH
  rw [← hrest] at hO
  have hbn : b < n0 := by rw [← hn0]; exact hH.lt
  have hm := hH.many hstok.1
  have hv := hH.rest hstok.1
  obtain ⟨A, c, rfl, hc⟩ := own_form hO
  have hrl : rest.length < 64 := by rw [hrest, List.length_drop]; omega
  have hrest' := own_reads' hO
  obtain ⟨r0, r1, r2, r3, r4, r5, r6, r7, hs8⟩ := list8 _ hstok.1
  rw [hs8] at hH
  have q0 := hH.st 0 (by simp)
  have q1 := hH.st 1 (by simp)
  have q2 := hH.st 2 (by simp)
  have q3 := hH.st 3 (by simp)
  have q4 := hH.st 4 (by simp)
  have q5 := hH.st 5 (by simp)
  have q6 := hH.st 6 (by simp)
  have q7 := hH.st 7 (by simp)
  simp only [List.getD_cons_zero, List.getD_cons_succ] at q0 q1 q2 q3 q4 q5 q6 q7
  have HST := Lib.hid hst
  have HRE := Lib.hid hrest
  have HSO := Lib.hid hstok
  have HS8 := Lib.hid hs8
  have HLen := Lib.hid hlen
  have HBy := Lib.hid hb
  have HK := Lib.hid hK
  have HRR := Lib.hid hrest'
  have HC := Lib.hid hc
  have HRL := Lib.hid hrl
  have HN := Lib.hid hn0
  clear h hst hrest hstok hH hO hlen hb hK hs8 hrest' hc
  refine (callsIn_wide (n := 6)).1 (callsIn_of_wp_marks Tryd.func114 rfl trivial (wpIn_wide.2 ?_) rfl)
  simp only [Tryd.ntmps114, List.size_toArray, List.length_cons, List.length_nil, Nat.reduceAdd, Nat.reduceSub, Array.replicate_succ, Array.replicate_zero, List.push_toArray, List.append_toArray, List.nil_append, List.cons_append]
  go_wp2
  have hsz : (w.alloc (.cells #[.int .u32 r0, .int .u32 r1, .int .u32 r2, .int .u32 r3, .int .u32 r4, .int .u32 r5, .int .u32 r6, .int .u32 r7] 161)).heap.size = n0 + 1 := by rw [World.size_alloc, HN.out]
  have hbel := (Below.refl n0 w).alloc (Nat.le_of_eq HN.out.symm) (.cells #[.int .u32 r0, .int .u32 r1, .int .u32 r2, .int .u32 r3, .int .u32 r4, .int .u32 r5, .int .u32 r6, .int .u32 r7] 161)
  have harr : Arr (w.alloc (.cells #[.int .u32 r0, .int .u32 r1, .int .u32 r2, .int .u32 r3, .int .u32 r4, .int .u32 r5, .int .u32 r6, .int .u32 r7] 161)) n0 161 [r0, r1, r2, r3, r4, r5, r6, r7] := by
    unfold Arr
    rw [← HN.out, heap_alloc_new]
    rfl
  refine at_world (fun W0 => W0.heap.size = n0 + 1 ∧ Below n0 w W0 ∧ Arr W0 n0 161 [r0, r1, r2, r3, r4, r5, r6, r7]) ⟨hsz, hbel, harr⟩ ?_
  clear hsz hbel harr q0 q1 q2 q3 q4 q5 q6 q7
  rintro W1 ⟨hz1, hb1, ha1⟩
  have hm1 := (hb1.cell (p := ⟨b, 9, none⟩) hbn).trans hm
  have hv1 := (hb1.cell (p := ⟨b, 8, none⟩) hbn).trans hv
  have kT := tail_calls A c rest l.length W1.drew (HRR.out.below ((hb1.mono (Nat.le_of_eq HN.out)).drew)) (by omega) HC.out (by have := HLen.out; omega)
  have HB1 := Lib.hid hb1
  have HA1 := Lib.hid ha1
  have HZ1 := Lib.hid hz1
  clear hb1 ha1 hm hv hz1
  refine calm_ ?_
  refine start_ (n := 10) (S := fun w' => w'.cell? ⟨b, 9, none⟩ = some (.int .i64 (l.length : Int)) ∧ w'.cell? ⟨b, 8, none⟩ = some (.slice A rest.length c)) (ds := [8, 9]) #[false, false, false, false, false, false, false, false, false, false] (by kernel_rfl) rfl rfl ⟨hm1, hv1⟩ (fun hHeld => ?_)
  refine pure_ (i := 0) (N := some 12) (v := ?_) (a' := ?_) #[true, false, false, false, false, false, false, false, false, false] rfl rfl (by kernel_rfl) (fun _ _ _ h => h) (Or.inl ⟨by rfl, ?_⟩) ?_ ?_
  rotate_left
  · intro w'
    go_simp
    with_reducible rfl
  rotate_left
  · simp only [Act.put, List.setIfInBounds_toArray, List.set_cons_zero, List.set_cons_succ, i64_w, i32_w]
    rfl
  refine pure_ (i := 1) (N := some 13) (v := ?_) (a' := ?_) #[true, true, false, false, false, false, false, false, false, false] rfl rfl (by kernel_rfl) (fun _ _ _ h => h) (Or.inl ⟨by rfl, ?_⟩) ?_ ?_
  rotate_left
  · intro w'
    go_simp
    with_reducible rfl
  rotate_left
  · simp only [Act.put, List.setIfInBounds_toArray, List.set_cons_zero, List.set_cons_succ, i64_w, i32_w]
    rfl
  refine pure_ (i := 2) (N := some 14) (v := ?_) (a' := ?_) #[true, true, true, false, false, false, false, false, false, false] rfl rfl (by kernel_rfl) (fun _ _ _ h => h) (Or.inl ⟨by rfl, ?_⟩) ?_ ?_
  rotate_left
  · intro w'
    go_simp
    with_reducible rfl
  rotate_left
  · simp only [Act.put, List.setIfInBounds_toArray, List.set_cons_zero, List.set_cons_succ, i64_w, i32_w]
    rfl
  refine pure_ (i := 4) (N := some 16) (v := ?_) (a' := ?_) #[true, true, true, false, true, false, false, false, false, false] rfl rfl (by kernel_rfl) (fun _ _ _ h => h) (Or.inl ⟨by rfl, ?_⟩) ?_ ?_
  rotate_left
  · intro w'
    go_simp
    with_reducible rfl
  rotate_left
  · simp only [Act.put, List.setIfInBounds_toArray, List.set_cons_zero, List.set_cons_succ, i64_w, i32_w]
    rfl
  refine pure_ (i := 5) (N := some 17) (v := ?_) (a' := ?_) #[true, true, true, false, true, true, false, false, false, false] rfl rfl (by kernel_rfl) (fun _ _ _ h => h) (Or.inl ⟨by rfl, ?_⟩) ?_ ?_
  rotate_left
  · intro w'
    go_simp
    with_reducible rfl
  rotate_left
  · simp only [Act.put, List.setIfInBounds_toArray, List.set_cons_zero, List.set_cons_succ, i64_w, i32_w]
    rfl
  refine pure_ (i := 6) (N := some 18) (v := ?_) (a' := ?_) #[true, true, true, false, true, true, true, false, false, false] rfl rfl (by kernel_rfl) (fun _ _ _ h => h) (Or.inl ⟨by rfl, ?_⟩) ?_ ?_
  rotate_left
  · intro w'
    go_simp
    with_reducible rfl
  rotate_left
  · simp only [Act.put, List.setIfInBounds_toArray, List.set_cons_zero, List.set_cons_succ, i64_w, i32_w]
    rfl
  refine take_ (i := 3) (N := some 15) (v := ?_) (a' := ?_) #[true, true, true, true, true, true, true, false, false, false] rfl rfl (by kernel_rfl) (fun _ _ _ h => h) (Or.inl ⟨by rfl, ?_⟩) hHeld ?_ ?_
  rotate_left
  · rintro w' ⟨s0, s1⟩
    go_simp
    with_reducible rfl
  rotate_left
  · simp only [Act.put, List.setIfInBounds_toArray, List.set_cons_zero, List.set_cons_succ, i64_w, i32_w]
    rfl
  refine take_ (i := 7) (N := some 19) (v := ?_) (a' := ?_) #[true, true, true, true, true, true, true, true, false, false] rfl rfl (by kernel_rfl) (fun _ _ _ h => h) (Or.inl ⟨by rfl, ?_⟩) hHeld ?_ ?_
  rotate_left
  · rintro w' ⟨s0, s1⟩
    go_simp
    with_reducible rfl
  rotate_left
  · simp only [Act.put, List.setIfInBounds_toArray, List.set_cons_zero, List.set_cons_succ, i64_w, i32_w]
    rfl
  refine last_ (i := 8) (N := some 20) #[true, true, true, true, true, true, true, true, true, false] rfl rfl (by kernel_rfl) (by decide) (fun K hK => ?_)
  refine goes_ Tryd.func135 (by kernel_rfl) rfl #[.slice A rest.length c, .int .i64 (l.length : Int), .int .i64 64] (by rfl) rfl rfl (by simp only [List.map_toArray, List.map_cons, List.map_nil]; rfl) ?_
  with_reducible refine (kT).mono ?_
  rintro e w5 ⟨v5, rfl, hown5, hb5⟩
  refine ⟨_, rfl, ?_⟩
  obtain ⟨A5, c5, rfl, hc5⟩ := own_form hown5
  have HO5 := Lib.hid hown5
  have HB5 := Lib.hid hb5
  clear hown5 hb5
  refine hK.out _ _ ?_
  clear hK K
  refine norm_ (a' := ?_) ?_ ?_
  rotate_left
  · show Act.put _ (some 20) _ = _
    simp only [Act.put, List.setIfInBounds_toArray, List.set_cons_zero, List.set_cons_succ, i64_w, i32_w]
    rfl
  refine last_ (i := 9) (N := some 21) #[true, true, true, true, true, true, true, true, true, true] rfl rfl (by kernel_rfl) (by decide) (fun K hK => ?_)
  refine goes_ Tryd.func132 (by kernel_rfl) rfl #[.slice A5 (tailN rest l.length).length c5, .int .i64 64] (by rfl) rfl rfl (by simp only [List.map_toArray, List.map_cons, List.map_nil]; rfl) ?_
  with_reducible refine (blocks_calls A5 (tailN rest l.length).length c5 w5).mono ?_
  rintro e w6 ⟨rfl, hw6⟩
  refine ⟨_, rfl, ?_⟩
  refine hK.out _ _ ?_
  clear hK K
  refine norm_ (a' := ?_) ?_ ?_
  rotate_left
  · show Act.put _ (some 21) _ = _
    simp only [Act.put, List.setIfInBounds_toArray, List.set_cons_zero, List.set_cons_succ, i64_w, i32_w]
    rfl
  refine done_ (by kernel_rfl) ?_
  obtain ⟨n1, hn1⟩ : ∃ n1, w5.heap.size = n1 := ⟨_, rfl⟩
  obtain ⟨T, hT⟩ : ∃ T, T = tailN rest l.length := ⟨_, rfl⟩
  rw [← hT] at hc5 HO5 hw6 ⊢
  have HT := Lib.hid hT
  have HW6 := Lib.hid hw6
  clear hT hw6
  simp only [calmly]
  go_wp2
  rw [hn1]
  refine at_world (fun W0 => Su n0 n0 n1 st (.slice A5 T.length c5) T w W0 ∧ Boxed W0 n1 47 (.slice A5 T.length c5) ∧ Boxed W0 (n1 + 1) 3 (.int .i64 64) ∧ W0.heap.size = n1 + 2) ?_ ?_
  · have hb5 := HB5.out
    have hn01 : n0 < n1 := by have := hb5.size; have : W1.drew.heap.size = W1.heap.size := rfl; have := HZ1.out; omega
    have ha5 : Arr w5 n0 161 st := by
      rw [HS8.out]
      exact (show Arr W1.drew n0 161 _ from HA1.out).far (hb5.block n0 (by have : W1.drew.heap.size = W1.heap.size := rfl; have := HZ1.out; omega))
    have hbel5 : Below n0 w w5 := HB1.out.trans ((show Below W1.heap.size W1 w5 from ⟨hb5.os, hb5.tape, hb5.output, hb5.size, hb5.block⟩).mono (by have := HZ1.out; omega))
    have hz6 : w6.heap.size = n1 + 2 := by rw [HW6.out]; simp; omega
    have hbx := (Boxed.new w5 47 (.slice A5 T.length c5)).alloc (.cells #[.int .i64 64] 3)
    have hbs := Boxed.new (w5.alloc (.cells #[.slice A5 T.length c5] 47)) 3 (.int .i64 64)
    rw [World.size_alloc, hn1] at hbs
    rw [hn1] at hbx
    have h56 : Below w5.heap.size w5 w6 := by rw [HW6.out]; exact ((Below.refl _ _).alloc (Nat.le_refl _) _).alloc (by simp) _
    have ho5 : OwnB w5 n0 (.slice A5 T.length c5) T := own_weaken HO5.out (by have : W1.drew.heap.size = W1.heap.size := rfl; have := HZ1.out; omega)
    refine ⟨⟨ha5.far (h56.block n0 (by omega)), pw_own_below ho5 h56, hbel5.trans (h56.mono (by omega)), Nat.le_refl _, hn01, fun g hg => ⟨by have := (ho5.lt g hg).2; omega, fun e => ?_⟩, by omega⟩, by rw [HW6.out]; exact hbx, by rw [HW6.out]; exact hbs, hz6⟩
    have hge := own_base HO5.out g hg
    have : W1.drew.heap.size = W1.heap.size := rfl
    have := HZ1.out
    omega
  clear hHeld hm1 hv1 hn1 kT
  rintro W4 ⟨h4, hbx, hbs, hz4⟩
  obtain ⟨nb, hnb⟩ : ∃ nb, nb = T.length / 64 := ⟨_, rfl⟩
  have hn01 : n0 < n1 := h4.lt.2.1
  have hTlt : T.length < 1099511627776 := by rw [HT.out, tailN_length]; unfold zc; omega
  refine (wpIn_wide (n := 6)).1 (rangeFunc_box (Bn := n1) (Kp := KpX n1 (n1 + 1)) (w0 := W4) (N := nb) (S := fun ys => ys = List.finRange nb) (Sp := fun _ => True) (encs := fun q : Fin nb => #[blkV A5 c5 q.val]) rfl (by decide) (gf := 150) (lb := #[.pointer (some ⟨n1, 0, none⟩), .pointer (some ⟨n1 + 1, 0, none⟩)]) rfl trivial (enters_of Tryd.func150 (by kernel_rfl) rfl) (by omega)
    (blocks1_in 5 (by decide) n1 (n1 + 1) (by omega) A5 T.length c5 nb hc5 hTlt hnb ?isSome W4 hbx hbs)
    KpX.t (KpX.b (by omega) (by omega)) (Below.refl _ _) (fun _ => rfl)
    (fun pre W => Su n0 n0 n1 (foldW st T pre) (.slice A5 T.length c5) T w W) (fun _ _ _ => False)
    (fun pre X Y row hs hg hrow => hs.far (S := fun k => some k = row) (Touch.grown hg (fun k e => e.symm)) (fun k e => Nat.le_trans (by omega) (hrow k e.symm).1))
    (fun _ _ _ _ _ hs _ _ => hs)
    (fun pre X Y hs ht => hs.far ht (fun k e => by omega))
    (fun _ _ _ _ hs _ => hs)
    h4
    (fun x a' W => a' = { tmps := #[.pointer (some ⟨b, 0, none⟩), undef, .slice none 0 0, .pointer (some ⟨n0, 0, none⟩), blkV A5 c5 x.val, undef, undef, undef, .pointer (some ⟨b, 0, none⟩), .pointer (some ⟨b, 0, none⟩), .pointer (some ⟨b, 0, none⟩), .agg #[.int .u32 r0, .int .u32 r1, .int .u32 r2, .int .u32 r3, .int .u32 r4, .int .u32 r5, .int .u32 r6, .int .u32 r7], .pointer (some ⟨b, 0, none⟩), .pointer (some ⟨b, 0, none⟩), .pointer (some ⟨b, 8, none⟩), .slice A rest.length c, .pointer (some ⟨b, 0, none⟩), .pointer (some ⟨b, 0, none⟩), .pointer (some ⟨b, 9, none⟩), .int .i64 (l.length : Int), .slice A5 T.length c5, .func (.func 150) #[] #[.pointer (some ⟨n1, 0, none⟩), .pointer (some ⟨n1 + 1, 0, none⟩)], blkV A5 c5 x.val, undef, undef, undef, undef, undef, undef, undef, undef, undef, undef, undef, undef, undef, undef, undef, undef, undef, undef, undef, undef, undef, undef, undef], defers := [] })
    (fun x a' => by rintro _ X Y row ha hg hrow; exact ha) ?assign ?body ?done ?stop)
  case isSome =>
    intro h0
    obtain ⟨ad, e, _⟩ := (own_reads' h4.own).2.2 h0
    rw [e]; rfl
  case assign =>
    rintro lp pre x W K hI hK
    gi_wp2
    exact hK _ _ ((KeepsOthers.refl' W).from _) (fun _ => ⟨fun e => e, fun e => e⟩) hI rfl
  case body =>
    rintro lp pre x a' W hl ⟨r, hrr⟩ hI rfl hlt
    have hsok := foldW_ok st T pre HSO.out
    obtain ⟨u0, u1, u2, u3, u4, u5, u6, u7, hs8⟩ := list8 _ hsok.1
    have hbok := blockN_ok (foldW st T pre) (words ((T.drop (64 * x.val)).take 64)) hsok
    obtain ⟨m0, m1, m2, m3, m4, m5, m6, m7, hm8⟩ := list8 _ hbok.1
    have harr := hI.arr
    rw [hs8] at harr
    have hxl : 64 * x.val + 64 ≤ T.length := by have := x.isLt; omega
    have hrd := (((own_reads' hI.own).drop_ (c := c5) (64 * x.val) (by omega) hc5))
    rw [if_neg (by omega)] at hrd
    have hrd2 := hrd.take_ 64 (by omega)
    have hKW : KTab W := HK.out.below hI.bel (by have := HK.out.lt; have := HN.out; omega)
    have hbyt : ∀ y ∈ (T.drop (64 * x.val)).take 64, 0 ≤ y ∧ y < 256 := fun y hy => tailN_ok rest l.length (fun z hz => HBy.out z (by rw [HRE.out] at hz; exact List.mem_of_mem_drop hz)) y (HT.out ▸ List.mem_of_mem_drop (List.mem_of_mem_take hy))
    have kM : Calls Tryd.prog 133 #[.agg #[.int .u32 u0, .int .u32 u1, .int .u32 u2, .int .u32 u3, .int .u32 u4, .int .u32 u5, .int .u32 u6, .int .u32 u7], blkV A5 c5 x.val] W fun e w'' => e = .returned (.agg #[.int .u32 m0, .int .u32 m1, .int .u32 m2, .int .u32 m3, .int .u32 m4, .int .u32 m5, .int .u32 m6, .int .u32 m7]) ∧ Below W.heap.size W w'' := by
      have := mix32_calls (foldW st T pre) hsok (A5.map (·.add (64 * x.val))) (c5 - 64 * x.val) ((T.drop (64 * x.val)).take 64) (by rw [List.length_take, List.length_drop]; omega) (by omega) W hrd2 hbyt hKW
      rw [hm8, hs8] at this
      exact this
    have kM2 := callsIn_inr lp ((callsIn_wide (n := 6 - 1 - 1 - 1)).2 kM)
    have q0 := harr.cell 0 (by simp)
    have q1 := harr.cell 1 (by simp)
    have q2 := harr.cell 2 (by simp)
    have q3 := harr.cell 3 (by simp)
    have q4 := harr.cell 4 (by simp)
    have q5 := harr.cell 5 (by simp)
    have q6 := harr.cell 6 (by simp)
    have q7 := harr.cell 7 (by simp)
    simp only [List.getD_cons_zero, List.getD_cons_succ] at q0 q1 q2 q3 q4 q5 q6 q7
    have HI := Lib.hid hI
    have HS8' := Lib.hid hs8
    have HM8 := Lib.hid hm8
    clear hsok hs8 hbok hm8 hrd hrd2 hKW hbyt harr hI hrr h4 hbx hbs hxl kM
    gi_wp2_with (refine ⟨trivial, ?_⟩; gi_at_call 133; with_reducible refine kM2.mono ?_; rintro e w7 ⟨rfl, hb7⟩; have hI7 := HI.out.far (S := fun _ => False) (Touch.of_below hb7) (fun _ e => e.elim); rw [HS8'.out] at hI7; have ha7 := hI7.arr; have e0 := ha7.cell 0 (by simp); have f0 := ha7.frozen 0; have e1 := ha7.cell 1 (by simp); have f1 := ha7.frozen 1; have e2 := ha7.cell 2 (by simp); have f2 := ha7.frozen 2; have e3 := ha7.cell 3 (by simp); have f3 := ha7.frozen 3; have e4 := ha7.cell 4 (by simp); have f4 := ha7.frozen 4; have e5 := ha7.cell 5 (by simp); have f5 := ha7.frozen 5; have e6 := ha7.cell 6 (by simp); have f6 := ha7.frozen 6; have e7 := ha7.cell 7 (by simp); have f7 := ha7.frozen 7; simp only [List.getD_cons_zero, List.getD_cons_succ] at e0 e1 e2 e3 e4 e5 e6 e7; have HI7 := Lib.hid hI7; have HB7 := Lib.hid hb7; clear hI7 hb7 ha7)
    refine ⟨(((((((((KeepsOthers.of_below' HB7.out).trans' (KeepsOthers.setCell _ _ _)).trans' (KeepsOthers.setCell _ _ _)).trans' (KeepsOthers.setCell _ _ _)).trans' (KeepsOthers.setCell _ _ _)).trans' (KeepsOthers.setCell _ _ _)).trans' (KeepsOthers.setCell _ _ _)).trans' (KeepsOthers.setCell _ _ _)).trans' (KeepsOthers.setCell _ _ _)).from _, KpX.of_eq (by rw [Below.heap_setCell _ _ _ _ (by show n1 ≠ n0; have := HI.out.lt; omega), Below.heap_setCell _ _ _ _ (by show n1 ≠ n0; have := HI.out.lt; omega), Below.heap_setCell _ _ _ _ (by show n1 ≠ n0; have := HI.out.lt; omega), Below.heap_setCell _ _ _ _ (by show n1 ≠ n0; have := HI.out.lt; omega), Below.heap_setCell _ _ _ _ (by show n1 ≠ n0; have := HI.out.lt; omega), Below.heap_setCell _ _ _ _ (by show n1 ≠ n0; have := HI.out.lt; omega), Below.heap_setCell _ _ _ _ (by show n1 ≠ n0; have := HI.out.lt; omega), Below.heap_setCell _ _ _ _ (by show n1 ≠ n0; have := HI.out.lt; omega), HB7.out.block _ (by have := HI.out.lt; omega)]) (by rw [Below.heap_setCell _ _ _ _ (by show n1 + 1 ≠ n0; have := HI.out.lt; omega), Below.heap_setCell _ _ _ _ (by show n1 + 1 ≠ n0; have := HI.out.lt; omega), Below.heap_setCell _ _ _ _ (by show n1 + 1 ≠ n0; have := HI.out.lt; omega), Below.heap_setCell _ _ _ _ (by show n1 + 1 ≠ n0; have := HI.out.lt; omega), Below.heap_setCell _ _ _ _ (by show n1 + 1 ≠ n0; have := HI.out.lt; omega), Below.heap_setCell _ _ _ _ (by show n1 + 1 ≠ n0; have := HI.out.lt; omega), Below.heap_setCell _ _ _ _ (by show n1 + 1 ≠ n0; have := HI.out.lt; omega), Below.heap_setCell _ _ _ _ (by show n1 + 1 ≠ n0; have := HI.out.lt; omega), HB7.out.block _ (by have := HI.out.lt; omega)]), ?_⟩
    show Su n0 n0 n1 (foldW st T (pre ++ [x])) _ T w _
    rw [foldW_snoc, HM8.out]
    exact ((((((((HI7.out.setS 0 m0).setS 1 m1).setS 2 m2).setS 3 m3).setS 4 m4).setS 5 m5).setS 6 m6).setS 7 m7)
  case done =>
    rintro D ys W hD rfl hI hK
    rw [foldW_all] at hI
    obtain ⟨g0, g1, g2, g3, g4, g5, g6, g7, hg8⟩ := list8 _ (runB_ok st T HSO.out nb).1
    have harr := hI.arr
    rw [hg8] at harr
    have q0 := harr.cell 0 (by simp)
    have q1 := harr.cell 1 (by simp)
    have q2 := harr.cell 2 (by simp)
    have q3 := harr.cell 3 (by simp)
    have q4 := harr.cell 4 (by simp)
    have q5 := harr.cell 5 (by simp)
    have q6 := harr.cell 6 (by simp)
    have q7 := harr.cell 7 (by simp)
    simp only [List.getD_cons_zero, List.getD_cons_succ] at q0 q1 q2 q3 q4 q5 q6 q7
    have hfinal : ((([g0, g1, g2, g3, g4, g5, g6, g7] : List Nat).take 8).map b4).flatten = shaN l := by
      rw [List.take_of_length_le (by simp), ← hg8, hnb, HT.out, HST.out, HRE.out]
      exact (shaN_way l _ rfl).symm
    have HF := Lib.hid hfinal
    have HBW := Lib.hid hI.bel
    have HHK := Lib.hid hK
    clear hfinal hI hK harr hg8 hbx hbs h4 hnb hTlt
    go_wp2
    go_loopw [5, 27] (fun v5 v27 wr => ∃ (i : Nat), v27 = .int .i64 i ∧ i ≤ 8 ∧ OwnB wr n0 v5 ((([g0, g1, g2, g3, g4, g5, g6, g7] : List Nat).take i).map b4).flatten ∧ Below n0 w wr ∧ wr.heap[D]? = some (.deferred (some []))) (fun _ v27 _ => 8 - (intOf v27).toNat)
    case atStart => exact ⟨0, rfl, by omega, own_nil _ _ _ _, HBW.out, HHK.out⟩
    case round =>
      clear q0 q1 q2 q3 q4 q5 q6 q7
      obtain ⟨i, rfl, hi, hown, hbel, hK⟩ := hrel
      have hDn : ∀ g, u5.ownBlock = some g → g ≠ D := fun g hg e => by
        obtain ⟨cs, hcs⟩ := own_typed hown g hg
        rw [e, hK] at hcs; cases hcs
      by_cases hlt : i < 8
      · have hd : decide ((i : Int) < 8) = true := decide_eq_true (by omega)
        have ix := fun w => ixS g0 g1 g2 g3 g4 g5 g6 g7 i hlt w
        obtain ⟨X, hX⟩ : ∃ X, X = ([g0, g1, g2, g3, g4, g5, g6, g7] : List Nat).getD i 0 := ⟨_, rfl⟩
        rw [← hX] at ix
        have hsnoc : ((([g0, g1, g2, g3, g4, g5, g6, g7] : List Nat).take (i + 1)).map b4).flatten = ((([g0, g1, g2, g3, g4, g5, g6, g7] : List Nat).take i).map b4).flatten ++ [(X : Int) / 16777216 % 256, (X : Int) / 65536 % 256, (X : Int) / 256 % 256, (X : Int) % 256] := by
          rw [List.take_succ_eq_append_getElem (by simpa using hlt), List.map_append, List.flatten_append, ← b4_eq, hX]
          simp [List.getD_eq_getElem?_getD, hlt]
        have hlen5 : (((([g0, g1, g2, g3, g4, g5, g6, g7] : List Nat).take i).map b4).flatten.length + 4) * 1 ≤ 140737488355328 := by
          rw [flat4, List.length_take]; omega
        have hR4 : ReadsInt (wr.alloc (.cells #[.int .u8 ((X : Int) / 16777216 % 256), .int .u8 ((X : Int) / 65536 % 256), .int .u8 ((X : Int) / 256 % 256), .int .u8 ((X : Int) % 256)] 5)) .u8 (some ⟨wr.heap.size, 0, none⟩) 4 [(X : Int) / 16777216 % 256, (X : Int) / 65536 % 256, (X : Int) / 256 % 256, (X : Int) % 256] := reads_lit wr _ (by simp)
        have hO4 := pw_own_below hown ((Below.refl _ wr).alloc (Nat.le_refl _) (.cells #[.int .u8 ((X : Int) / 16777216 % 256), .int .u8 ((X : Int) / 65536 % 256), .int .u8 ((X : Int) / 256 % 256), .int .u8 ((X : Int) % 256)] 5))
        have hn0w : n0 ≤ wr.heap.size := by have := hbel.size; have := HN.out; omega
        have hB4 := hbel.alloc hn0w (.cells #[.int .u8 ((X : Int) / 16777216 % 256), .int .u8 ((X : Int) / 65536 % 256), .int .u8 ((X : Int) / 256 % 256), .int .u8 ((X : Int) % 256)] 5)
        have hs4 : n0 ≤ (wr.alloc (.cells #[.int .u8 ((X : Int) / 16777216 % 256), .int .u8 ((X : Int) / 65536 % 256), .int .u8 ((X : Int) / 256 % 256), .int .u8 ((X : Int) % 256)] 5)).heap.size := by simp; omega
        generalize ((([g0, g1, g2, g3, g4, g5, g6, g7] : List Nat).take i).map b4).flatten = xs at *
        have HK5 := Lib.hid hK
        have HSN := Lib.hid hsnoc
        have HDN := Lib.hid hDn
        clear hX hown hbel hK hsnoc hDn
        go_wp2_with (at_builtin; go_loud (refine print_append_row (w0 := w) n0 rfl _ _ 47 5 .u8 1 rfl Tryd.underlying47 inf5 (by decide) u5 xs [(X : Int) / 16777216 % 256, (X : Int) / 65536 % 256, (X : Int) / 256 % 256, (X : Int) % 256] (some ⟨wr.heap.size, 0, none⟩) 4 4 rfl rfl hO4 hR4 hB4 hs4 hlen5 ?_; intro v6 w6 hown6 hB6 hg6 _; have HG6 := Lib.hid hg6; clear hg6))
        rw [← HSN.out] at hown6
        have hDw : D < wr.heap.size := (Array.getElem?_eq_some_iff.1 HK5.out).1
        refine ⟨⟨i + 1, rfl, by omega, hown6, hB6, ?_⟩, by simp only [intOf]; omega⟩
        exact (HG6.out.block D (by simp; omega) (fun e => HDN.out D e.symm rfl)).trans ((Below.heap_alloc _ _ _ hDw).trans HK5.out)
      · have hd : decide ((i : Int) < 8) = false := decide_eq_false (by omega)
        have hi8 : i = 8 := by omega
        subst hi8
        rw [HF.out] at hown
        have HOW := Lib.hid hown
        have HBL := Lib.hid hbel
        have HK5 := Lib.hid hK
        have HDN := Lib.hid hDn
        clear hown hbel hK hDn
        go_wp2
        have htp : ∀ (X : World) (o : Obj), Touch (fun k => k = D) X (X.putObj D o) := fun X o => ⟨rfl, rfl, rfl, by simp, fun k _ hk => World.putObj_heap_other hk⟩
        refine ⟨by simp, .inl ⟨_, _, rfl, run_takeDeferred (w := wr) HK5.out, ?_⟩⟩
        refine ⟨_, results_tmp rfl _ _ _, _, rfl, ?_, ?_⟩
        · rw [HN.out]; exact own_blk HOW.out fun g hg => World.putObj_heap_other (fun e => HDN.out g hg e)
        · rw [HN.out]
          exact HBL.out.trans ((htp wr _).to_below (by have := HBL.out.size; have := HN.out; omega) (fun k e => by have := hD; omega))
  case stop =>
    rintro D c pre W _ _ h _
    exact h.elim
end Go.Proofs.YtoeibcdnhglobaaDoor.P

/- digest.Sum256: the walk. -/
namespace Go.Proofs.YtoeibcdnhglobaaDoor.P
set_option linter.unusedVariables false
set_option linter.unusedSimpArgs false
open Go.RowKit Go.Shelf Go.Proofs.YtoeibcdnhglobaaDoorW.PrintWords Go.Proofs.YtoeibcdnhglobaaDoorW.PrintLast Go.Proofs.YtoeibcdnhglobaaDoorW.PrintMore
open Go.Proofs.YtoeibcdnhglobaaDoor.Pure

/-- A part that is handed in: a slice of bytes, and what it holds. -/
structure Part where
  A : Option Addr
  c : Nat
  d : List Int
/-- The bytes of all parts. -/
def allB (ps : List Part) : List Int := (ps.map Part.d).flatten
theorem allB_take (ps : List Part) (j : Nat) (h : j < ps.length) : allB (ps.take (j + 1)) = allB (ps.take j) ++ ps[j].d := by
  unfold allB
  rw [List.take_succ_eq_append_getElem h, List.map_append, List.flatten_append]
  simp
theorem allB_len (ps : List Part) (j : Nat) : (allB (ps.take j)).length ≤ (allB ps).length := by
  have : allB ps = allB (ps.take j) ++ allB (ps.drop j) := by unfold allB; rw [← List.flatten_append, ← List.map_append, List.take_append_drop]
  rw [this, List.length_append]; omega
/-- The parts lie in memory: a row of slices, each read. -/
structure Parts (w : World) (A : Option Addr) (ps : List Part) : Prop where
  at_ : ∀ j (h : j < ps.length), ∃ ad, A = some ad ∧ w.cell? (ad.add j) = some (.slice ps[j].A ps[j].d.length ps[j].c)
  rd : ∀ p ∈ ps, ReadsInt w .u8 p.A p.d.length p.d
  ok : ∀ x ∈ allB ps, 0 ≤ x ∧ x < 256
  lt : (allB ps).length < 1099511627776
set_option maxRecDepth 100000 in
set_option maxHeartbeats 4000000 in
theorem Sum256_calls (w : World) (A : Option Addr) (c : Nat) (ps : List Part) (h : Parts w A ps) (hps : ps.length < 1099511627776) (hK : KTab w) (hB : BTab w) :
    Calls Tryd.prog 86 #[.slice A ps.length c] w fun e w' => ∃ v', e = .returned v' ∧ OwnB w' w.heap.size v' (shaN (allB ps)) ∧ Below w.heap.size w w' := by
  obtain ⟨n0, hn0⟩ : ∃ n0, w.heap.size = n0 := ⟨_, rfl⟩
  have hN := HNew_calls w hB
  have hK3 := hK.lt
  rw [hn0] at hN hK3
  have HP := Lib.hid h
  have HPS := Lib.hid hps
  have HK := Lib.hid hK
  have HN := Lib.hid hn0
  clear h hps hK hB
  go_enter Tryd.func86, Tryd.ntmps86
  go_wp2_with (go_at_call 112; with_reducible refine hN.mono ?_; rintro e w1 ⟨rfl, hH1, hB1⟩; have HH1 := Lib.hid hH1; have HB1 := Lib.hid hB1; clear hH1 hB1)
  go_loopw [9] (fun v9 wr => ∃ (j : Nat) (v : Value), v9 = .int .i64 j ∧ j ≤ ps.length ∧ Dig wr n0 (allB (ps.take j)) v ∧ Below n0 w wr ∧ (∀ g, v.ownBlock = some g → n0 ≤ g)) (fun v9 _ => ps.length - (intOf v9).toNat)
  case atStart => exact ⟨0, .slice none 0 0, rfl, by omega, ⟨by simpa [allB, runB] using HH1.out, (by simp [allB]; exact own_nil w1 0 5 1)⟩, HB1.out, fun g e => by cases e⟩
  case round =>
    obtain ⟨j, v, rfl, hj, hD, hbel, hvo⟩ := hrel
    by_cases hlt : j < ps.length
    · have hd : decide ((j : Int) < (ps.length : Int)) = true := decide_eq_true (by omega)
      have hd2 : (j : Int) < (ps.length : Int) := by omega
      have hd3 : (j : Int) < 1099511627776 := by have := HPS.out; omega
      obtain ⟨ad, rfl, hcell⟩ := HP.out.at_ j hlt
      have hlad := World.block_lt_of_cell? _ _ hcell
      have hcw := (hbel.cell (by rw [← HN.out]; exact hlad)).trans hcell
      have hrd : ReadsInt wr .u8 ps[j].A ps[j].d.length ps[j].d := (HP.out.rd _ (List.getElem_mem hlt)).below (HN.out ▸ hbel)
      have htk := allB_take ps j hlt
      have hl1 := allB_len ps (j + 1)
      have hok : ∀ x ∈ allB (ps.take j) ++ ps[j].d, 0 ≤ x ∧ x < 256 := fun x hx => HP.out.ok x (by
        rw [← htk] at hx
        unfold allB at hx ⊢
        obtain ⟨y, hy, hx⟩ := List.mem_flatten.1 hx
        obtain ⟨p, hp, rfl⟩ := List.mem_map.1 hy
        exact List.mem_flatten.2 ⟨_, List.mem_map.2 ⟨p, List.mem_of_mem_take hp, rfl⟩, hx⟩)
      have hlen : (allB (ps.take j)).length + ps[j].d.length < 1099511627776 := by
        rw [htk, List.length_append] at hl1; have := HP.out.lt; omega
      have hA : ∀ a2, ps[j].A = some a2 → 0 < ps[j].d.length → a2.block ≠ n0 := fun a2 e h0 => by
        obtain ⟨a3, e3, hc3⟩ := (HP.out.rd _ (List.getElem_mem hlt)).2.2 h0
        rw [e] at e3; cases e3
        have := World.block_lt_of_cell? _ _ (hc3 0 h0)
        rw [add_block, HN.out] at this
        omega
      have kW := Write_calls wr n0 (allB (ps.take j)) v hD ps[j].A ps[j].c ps[j].d hrd hlen hok (HK.out.below hbel hK3) hK3 (fun g hg => by have := hvo g hg; omega) hA
      rw [← htk] at kW
      generalize hp : ps[j] = p at *
      have HV := Lib.hid hvo
      have HBl := Lib.hid hbel
      have HD2 := Lib.hid hD
      clear hcell hrd htk hl1 hok hlen hA hlad hvo hbel hD
      go_wp2_with (go_at_call 113; with_reducible refine kW.mono ?_; rintro e w2 ⟨rfl, v2, hD2, hT2, hv2⟩; have HD3 := Lib.hid hD2; have HT2 := Lib.hid hT2; have HV2 := Lib.hid hv2; clear hD2 hT2 hv2)
      refine ⟨⟨j + 1, v2, rfl, by omega, HD3.out, HBl.out.trans (HT2.out.to_below (by have := HBl.out.size; have := HN.out; omega) (fun k e => ?_)), fun g hg => ?_⟩, by simp only [intOf]; omega⟩
      · rcases e with e | e
        · omega
        · exact HV.out k e.symm
      · have := HV2.out g hg
        have := HBl.out.size
        have := HN.out
        omega
    · have hd : decide ((j : Int) < (ps.length : Int)) = false := decide_eq_false (by omega)
      have hjl : ps.take j = ps := List.take_of_length_le (by omega)
      rw [hjl] at hD
      have kS := Sum_calls wr n0 (allB ps) v hD HP.out.lt HP.out.ok (HK.out.below hbel hK3)
      have HBl := Lib.hid hbel
      clear hD hbel hvo hjl
      go_wp2_with (go_at_call 114; with_reducible refine kS.mono ?_; rintro e w2 ⟨v2, rfl, ho2, hb2⟩; have HO2 := Lib.hid ho2; have HB2 := Lib.hid hb2; clear ho2 hb2)
      go_ret
      have hsz : n0 ≤ wr.heap.size := by have := HBl.out.size; have := HN.out; omega
      refine ⟨v2, rfl, ?_, ?_⟩
      · rw [HN.out]; exact own_weaken HO2.out hsz
      · rw [HN.out]; exact HBl.out.trans (HB2.out.mono hsz)
end Go.Proofs.YtoeibcdnhglobaaDoor.P

/- peaks.NodeHash, peaks.LeafHash: the walks. -/
namespace Go.Proofs.YtoeibcdnhglobaaDoor.P
set_option linter.unusedVariables false
set_option linter.unusedSimpArgs false
open Go.RowKit Go.Shelf Go.Proofs.YtoeibcdnhglobaaDoorW.PrintWords Go.Proofs.YtoeibcdnhglobaaDoorW.PrintLast Go.Proofs.YtoeibcdnhglobaaDoorW.PrintMore
open Go.Proofs.YtoeibcdnhglobaaDoor.Pure

/-- The tables of the digest lie whole. -/
structure DTab (w : World) : Prop where
  k : KTab w
  b : BTab w
theorem DTab.below {w w' : World} (h : DTab w) {B : Nat} (hb : Below B w w') (hB : 3 < B) : DTab w' := ⟨h.k.below hb hB, h.b.below hb (by omega)⟩
/-- The hash of two. -/
def nodeH (a b : ByteArray) : ByteArray := strOfNums (shaN (1 :: (bytesOf a ++ bytesOf b)))
/-- The hash of a leaf. -/
def leafH (l : List Int) : ByteArray := strOfNums (shaN (0 :: l))
theorem bytesOf_ok (s : ByteArray) : ∀ x ∈ bytesOf s, 0 ≤ x ∧ x < 256 := by
  intro x hx
  obtain ⟨b, _, rfl⟩ := List.mem_map.1 hx
  have := b.toNat_lt
  omega
theorem bytes_below' (W : World) (s : ByteArray) : Below W.heap.size W (Lib.bytesWorld W 5 s) := bytes_below (Below.refl _ W) (Nat.le_refl _) 5 s
/-- A row of slices, just laid. -/
theorem parts_of (W : World) (ps : List Part) (hr : ∀ p ∈ ps, ReadsInt W .u8 p.A p.d.length p.d) (hok : ∀ x ∈ allB ps, 0 ≤ x ∧ x < 256) (hlt : (allB ps).length < 1099511627776) :
    Parts (W.alloc (.cells (ps.map fun p => Value.slice p.A p.d.length p.c).toArray 47)) (some ⟨W.heap.size, 0, none⟩) ps := by
  refine ⟨fun j h => ⟨_, rfl, ?_⟩, fun p hp => (hr p hp).allocS _, hok, hlt⟩
  rw [add_plain]
  have hn := heap_alloc_new W (.cells (ps.map fun p => Value.slice p.A p.d.length p.c).toArray 47)
  unfold World.cell?
  simp only []
  rw [hn]
  simp [h]
set_option maxRecDepth 100000 in
set_option maxHeartbeats 4000000 in
theorem NodeHash_calls (a b : ByteArray) (hs : a.size + b.size < 549755813888) (w : World) (hT : DTab w) :
    Calls Tryd.prog 41 #[.string a, .string b] w fun e w' => e = .returned (.string (nodeH a b)) ∧ Below w.heap.size w w' := by
  have kb := fun (s : ByteArray) (W : World) => print_bytes (P := Tryd.prog) 9 47 5 Tryd.underlying9 Tryd.underlying47 Tryd.underlying5 s W
  have hzb := fun (W : World) (s : ByteArray) => Lib.bytesWorld_size W 5 s
  obtain ⟨W1, hW1⟩ : ∃ W1, W1 = w.alloc (.cells #[.int .u8 1] 5) := ⟨_, rfl⟩
  obtain ⟨W2, hW2⟩ : ∃ W2, W2 = Lib.bytesWorld W1 5 a := ⟨_, rfl⟩
  obtain ⟨W3, hW3⟩ : ∃ W3, W3 = Lib.bytesWorld W2 5 b := ⟨_, rfl⟩
  have h1 : Below w.heap.size w W1 := hW1 ▸ (Below.refl _ w).alloc (Nat.le_refl _) _
  have z1 : W1.heap.size = w.heap.size + 1 := by rw [hW1]; simp
  have h2 : Below W1.heap.size W1 W2 := hW2 ▸ bytes_below' W1 a
  have z2 : W2.heap.size = w.heap.size + 1 + 1 := by rw [hW2, hzb, z1]
  have h3 : Below W2.heap.size W2 W3 := hW3 ▸ bytes_below' W2 b
  have z3 : W3.heap.size = w.heap.size + 1 + 1 + 1 := by rw [hW3, hzb, z2]
  have r1 : ReadsInt W1 .u8 (some ⟨w.heap.size, 0, none⟩) 1 [1] := hW1 ▸ reads_lit w [1] (by decide)
  have r2 : ReadsInt W2 .u8 (some ⟨w.heap.size + 1, 0, none⟩) a.size (bytesOf a) := by
    have := bytes_reads W1 5 a (by omega)
    rwa [← hW2, z1] at this
  have r3 : ReadsInt W3 .u8 (some ⟨w.heap.size + 1 + 1, 0, none⟩) b.size (bytesOf b) := by
    have := bytes_reads W2 5 b (by omega)
    rwa [← hW3, z2] at this
  have la := bytesOf_length a
  have lb := bytesOf_length b
  have hP := parts_of W3 [⟨some ⟨w.heap.size, 0, none⟩, 1, [1]⟩, ⟨some ⟨w.heap.size + 1, 0, none⟩, grownCap W1 a.size 0 5, bytesOf a⟩, ⟨some ⟨w.heap.size + 1 + 1, 0, none⟩, grownCap W2 b.size 0 5, bytesOf b⟩]
    (by
      intro p hp
      simp only [List.mem_cons, List.not_mem_nil, or_false] at hp
      rcases hp with rfl | rfl | rfl
      · exact (r1.below h2).below h3
      · show ReadsInt W3 .u8 _ (bytesOf a).length _
        rw [la]; exact r2.below h3
      · show ReadsInt W3 .u8 _ (bytesOf b).length _
        rw [lb]; exact r3)
    (by
      intro x hx
      simp only [allB, List.map_cons, List.map_nil, List.flatten_cons, List.flatten_nil, List.mem_append, List.mem_singleton, List.append_nil] at hx
      rcases hx with rfl | hx | hx
      · omega
      · exact bytesOf_ok a x hx
      · exact bytesOf_ok b x hx)
    (by simp [allB, la, lb]; omega)
  have hT3 : DTab W3 := ((hT.below h1 hT.k.lt).below h2 (by have := hT.k.lt; omega)).below h3 (by have := hT.k.lt; omega)
  have hB3 : Below w.heap.size w W3 := (h1.trans (h2.mono (by omega))).trans (h3.mono (by omega))
  rw [z3] at hP
  simp only [List.map_cons, List.map_nil, la, lb, List.length_cons, List.length_nil] at hP
  have hT4 := hT3.below ((Below.refl _ W3).alloc (Nat.le_refl _) (.cells #[.slice (some ⟨w.heap.size, 0, none⟩) 1 1, .slice (some ⟨w.heap.size + 1, 0, none⟩) a.size (grownCap W1 a.size 0 5), .slice (some ⟨w.heap.size + 1 + 1, 0, none⟩) b.size (grownCap W2 b.size 0 5)] 47)) hT3.k.lt
  have kS := Sum256_calls _ _ 3 _ hP (by simp) hT4.k hT4.b
  have hB4 := hB3.alloc (by omega) (.cells #[.slice (some ⟨w.heap.size, 0, none⟩) 1 1, .slice (some ⟨w.heap.size + 1, 0, none⟩) a.size (grownCap W1 a.size 0 5), .slice (some ⟨w.heap.size + 1 + 1, 0, none⟩) b.size (grownCap W2 b.size 0 5)] 47)
  have HB4 := Lib.hid hB4
  have hall : ∀ (A1 A2 A3 : Option Addr) (c1 c2 c3 : Nat), allB [⟨A1, c1, [1]⟩, ⟨A2, c2, bytesOf a⟩, ⟨A3, c3, bytesOf b⟩] = 1 :: (bytesOf a ++ bytesOf b) := by intros; simp [allB]
  simp only [hall] at kS
  have hstr := fun (W : World) (A : Option Addr) (n c : Nat) (xs : List Int) (h : ReadsInt W .u8 A n xs) => string_of_reads (P := Tryd.prog) (src := 47) (dst := 9) (c := c) Tryd.underlying47 Tryd.underlying5 Tryd.underlying9 h
  have HSTR := Lib.hid hstr
  subst hW3
  subst hW2
  subst hW1
  clear hP hT3 hB3 hT4 hB4 h1 h2 h3 r1 r2 r3 la lb hT hs z1 z2 z3 hall hstr
  go_enter Tryd.func41, Tryd.ntmps41
  go_wp2_with (go_at_call 86; refine kS.mono ?_; rintro e w5 ⟨v5, rfl, ho5, hb5⟩; obtain ⟨A5, c5, rfl, _⟩ := own_form ho5; have hcv := HSTR.out w5 A5 _ c5 _ (own_reads' ho5); have HB5 := Lib.hid hb5; clear ho5 hb5)
  go_ret
  exact ⟨rfl, HB4.out.trans (HB5.out.mono HB4.out.size)⟩
set_option maxRecDepth 100000 in
set_option maxHeartbeats 4000000 in
theorem LeafHash_calls (A : Option Addr) (c : Nat) (l : List Int) (hl : l.length < 549755813888) (w : World) (hr : ReadsInt w .u8 A l.length l) (hb : ∀ x ∈ l, 0 ≤ x ∧ x < 256) (hT : DTab w) :
    Calls Tryd.prog 37 #[.slice A l.length c] w fun e w' => e = .returned (.string (leafH l)) ∧ Below w.heap.size w w' := by
  obtain ⟨W1, hW1⟩ : ∃ W1, W1 = w.alloc (.cells #[.int .u8 0] 5) := ⟨_, rfl⟩
  have h1 : Below w.heap.size w W1 := hW1 ▸ (Below.refl _ w).alloc (Nat.le_refl _) _
  have z1 : W1.heap.size = w.heap.size + 1 := by rw [hW1]; simp
  have r1 : ReadsInt W1 .u8 (some ⟨w.heap.size, 0, none⟩) 1 [0] := hW1 ▸ reads_lit w [0] (by decide)
  have hP := parts_of W1 [⟨some ⟨w.heap.size, 0, none⟩, 1, [0]⟩, ⟨A, c, l⟩]
    (by
      intro p hp
      simp only [List.mem_cons, List.not_mem_nil, or_false] at hp
      rcases hp with rfl | rfl
      · exact r1
      · exact hr.below h1)
    (by
      intro x hx
      simp only [allB, List.map_cons, List.map_nil, List.flatten_cons, List.flatten_nil, List.mem_append, List.mem_singleton, List.append_nil] at hx
      rcases hx with rfl | hx
      · omega
      · exact hb x hx)
    (by simp [allB]; omega)
  have hT1 : DTab W1 := hT.below h1 hT.k.lt
  rw [z1] at hP
  simp only [List.map_cons, List.map_nil, List.length_cons, List.length_nil] at hP
  have hT4 := hT1.below ((Below.refl _ W1).alloc (Nat.le_refl _) (.cells #[.slice (some ⟨w.heap.size, 0, none⟩) (0 + 1) 1, .slice A l.length c] 47)) hT1.k.lt
  have kS := Sum256_calls _ _ 2 _ hP (by simp) hT4.k hT4.b
  have hB4 := h1.alloc (by omega) (.cells #[.slice (some ⟨w.heap.size, 0, none⟩) (0 + 1) 1, .slice A l.length c] 47)
  have HB4 := Lib.hid hB4
  have hall : ∀ (A1 A2 : Option Addr) (c1 c2 : Nat), allB [⟨A1, c1, [0]⟩, ⟨A2, c2, l⟩] = 0 :: l := by intros; simp [allB]
  simp only [hall] at kS
  have hstr := fun (W : World) (A : Option Addr) (n c : Nat) (xs : List Int) (h : ReadsInt W .u8 A n xs) => string_of_reads (P := Tryd.prog) (src := 47) (dst := 9) (c := c) Tryd.underlying47 Tryd.underlying5 Tryd.underlying9 h
  have HSTR := Lib.hid hstr
  subst hW1
  clear hP hT1 hT4 hB4 h1 r1 hT hl z1 hall hstr hr hb
  go_enter Tryd.func37, Tryd.ntmps37
  go_wp2_with (go_at_call 86; refine kS.mono ?_; rintro e w5 ⟨v5, rfl, ho5, hb5⟩; obtain ⟨A5, c5, rfl, _⟩ := own_form ho5; have hcv := HSTR.out w5 A5 _ c5 _ (own_reads' ho5); have HB5 := Lib.hid hb5; clear ho5 hb5)
  go_ret
  exact ⟨rfl, HB4.out.trans (HB5.out.mono HB4.out.size)⟩
end Go.Proofs.YtoeibcdnhglobaaDoor.P
