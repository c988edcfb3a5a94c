/- pantilelaw12.TilesMake: the walk. -/
import Derived.Test.YtoeibcdnhglobaaDoorGTDat
namespace Go.Proofs.YtoeibcdnhglobaaDoor.P
set_option linter.unusedVariables false
set_option linter.unusedSimpArgs false
open Go.RowKit Go.Shelf Go.Proofs.YtoeibcdnhglobaaDoorW.PrintWords Go.Proofs.YtoeibcdnhglobaaDoorW.PrintLast Go.Proofs.YtoeibcdnhglobaaDoorW.PrintMore
open Go.Proofs.YtoeibcdnhglobaaDoor.Pure

def plB (j i : Nat) : Bool := !decide ((i + 1) * 2 ^ j ≤ 40) || (match T.tiles_Place.f (j : Int) (i : Int) with | some (a, b, c, d, e) => a == 0 && b == 0 && c == ((i * 2 ^ j + 2 ^ j : Nat) : Int) && d == ((i * 2 ^ j : Nat) : Int) && e == 0 | none => false)
theorem plB_all : ((List.range 6).all fun j => (List.range 41).all fun i => plB j i) = true := by kernel_rfl
theorem place_small (j : Nat) (hj : j < 6) (i : Nat) (hi : i < 41) (h : (i + 1) * 2 ^ j ≤ 40) : T.tiles_Place.f (j : Int) (i : Int) = some (0, 0, ((i * 2 ^ j + 2 ^ j : Nat) : Int), ((i * 2 ^ j : Nat) : Int), 0) := by
  have h1 := List.all_eq_true.1 (List.all_eq_true.1 plB_all j (List.mem_range.2 hj)) i (List.mem_range.2 hi)
  unfold plB at h1
  rw [decide_eq_true h] at h1
  cases hf : T.tiles_Place.f (j : Int) (i : Int) with
  | none => rw [hf] at h1; simp at h1
  | some x =>
    obtain ⟨a, b, c, d, e⟩ := x
    rw [hf] at h1
    simp only [Bool.not_true, Bool.false_or, Bool.and_eq_true, beq_iff_eq] at h1
    obtain ⟨⟨⟨⟨rfl, rfl⟩, rfl⟩, rfl⟩, rfl⟩ := h1
    rfl
theorem width_all : ((List.range 41).all fun n => Wd (n : Int) 0 0 == (n : Int)) = true := by kernel_rfl
theorem width_small (n : Nat) (hn : n < 41) : Wd (n : Int) 0 0 = (n : Int) := by
  have h1 := List.all_eq_true.1 width_all n (List.mem_range.2 hn)
  exact beq_iff_eq.1 h1
theorem pow_all : ((List.range 6).all fun j => !((bits .and .i64 ((2 ^ j : Nat) : Int) (((2 ^ j : Nat) : Int) - 1)) != 0)) = true := by kernel_rfl
theorem pow_ok (j : Nat) (hj : j < 6) : ((bits .and .i64 ((2 ^ j : Nat) : Int) (((2 ^ j : Nat) : Int) - 1)) != 0) = false := by
  have h1 := List.all_eq_true.1 pow_all j (List.mem_range.2 hj)
  simpa using h1
section
variable {F : Fence} {n : Nat} {P : Program} {ops : Array Oper} {C : World → Prop}
theorem wpQuietIn_goG2 {Q : Act → Prop} {o : Oper} {rest : List Oper} {a a' : Act} {N : Option Tmp} {v : Value} (hg : Region.wanted o (yielded ops a.tmps) = true) (hF : ∀ f, F.fn f) (h1 : ∀ w', C w' → o.quietAtIn F n P a C w' v) (hN : o.dst = N) (ha : a.put N v = a')
    (h2 : wpQuietIn F n P ops C Q rest a') : wpQuietIn F n P ops C Q (o :: rest) a := by
  refine ⟨fun w _ f _ => hF f, ?_⟩
  rw [if_pos hg]
  exact ⟨v, h1, by rw [hN, ha]; exact h2⟩
end
set_option maxRecDepth 100000 in
set_option maxHeartbeats 8000000 in
theorem TilesMake_calls (A : Option Addr) (c : Nat) (ps : List Part) (level index : Int) (w : World) (h : Leaves w A ps) (hT : TzTab w) (hG : GlobH w) :
    Calls Tryd.prog 12 #[.slice A ps.length c, .int .i64 level, .int .i64 index] w fun e w' => e = .returned (.bool true) ∧ Below w.heap.size w w' := by
  have kH : Calls Tryd.prog 46 #[.slice A ps.length c, .int .i64 40] w fun e w' => ∃ A1 c1, e = .returned (.slice A1 (hash10 ps 40).length c1) ∧ (hash10 ps 40).length ≤ c1 ∧ SRow w' A1 (hash10 ps 40) ∧ ReadsOf Value.string ByteArray.empty w' A1 (hash10 ps 40).length (hash10 ps 40) ∧ Below w.heap.size w w' := by
    have k : Calls Tryd.prog 46 #[.slice A ps.length c, .int .i64 40] w _ := Hashes10_calls A c ps 40 (by omega) w h
    refine k.mono ?_
    rintro e w' ⟨v, he, ho, hb⟩
    obtain ⟨A1, c1, rfl, hc1⟩ := own_slc0 ho
    exact ⟨A1, c1, he, hc1, SRow.of_own ho, own_reads_of' (d := ByteArray.empty) ho, hb⟩
  have hlen := hash10_len ps 40
  have hsz : ∀ s ∈ hash10 ps 40, s.size = 32 := by
    intro s hs
    obtain ⟨p, _, rfl⟩ := List.mem_map.1 hs
    exact leafH_size _
  generalize hash10 ps 40 = L at *
  have kL := fun W => lives12_calls true W rfl
  have hN40 : L.length ≤ 40 := by omega
  have hNb : (L.length : Int) ≤ 40 := by omega
  by_cases hbad : level < 0 ∨ 5 < level ∨ index < 0 ∨ 40 < index
  · obtain ⟨x0, e0⟩ : ∃ b, decide (level < 0) = b := ⟨_, rfl⟩
    obtain ⟨x1, e1⟩ : ∃ b, decide (5 < level) = b := ⟨_, rfl⟩
    obtain ⟨x2, e2⟩ : ∃ b, decide (index < 0) = b := ⟨_, rfl⟩
    obtain ⟨x3, e3⟩ : ∃ b, decide (40 < index) = b := ⟨_, rfl⟩
    have hx : (x0 || x1 || x2 || x3) = true := by
      rw [← e0, ← e1, ← e2, ← e3]
      simp only [Bool.or_eq_true, decide_eq_true_eq]
      omega
    generalize L.length = N at *
    clear hsz hlen hbad h hT hG
    cases x0 <;> cases x1 <;> cases x2 <;> cases x3 <;> first | (exact absurd hx (by decide)) | skip
    all_goals
      clear hx
      go_enter Tryd.func12, Tryd.ntmps12
      go_wp2_with (first
        | (go_at_call 46; go_loud (with_reducible refine kH.mono ?_; rintro e w1 ⟨A1, c1, rfl, hc1, hs1, _, hb1⟩))
        | (go_at_call 44; go_loud (refine (kL _).mono ?_; rintro e w3 ⟨rfl, hb3⟩)))
      go_ret
      exact ⟨rfl, hb1.trans (hb3.mono hb1.size)⟩
  obtain ⟨j, rfl⟩ : ∃ j : Nat, level = j := ⟨level.toNat, by omega⟩
  obtain ⟨i, rfl⟩ : ∃ i : Nat, index = i := ⟨index.toNat, by omega⟩
  have hj : j < 6 := by omega
  have hi : i < 41 := by omega
  have hp0 : 0 < 2 ^ j := Nat.two_pow_pos j
  have hp6 : 2 ^ j ≤ 64 := (Nat.pow_le_pow_right (by omega) (show j ≤ 6 by omega) : 2 ^ j ≤ 2 ^ 6)
  have e0 : decide ((j : Int) < 0) = false := decide_eq_false (by omega)
  have e1 : decide ((5 : Int) < (j : Int)) = false := decide_eq_false (by omega)
  have e2 : decide ((i : Int) < 0) = false := decide_eq_false (by omega)
  have e3 : decide ((40 : Int) < (i : Int)) = false := decide_eq_false (by omega)
  have hjI : (j : Int) ≤ 5 := by omega
  have hiI : (i : Int) ≤ 40 := by omega
  have HP6 := Lib.hid hp6
  have hq1 : (i + 1) * 2 ^ j = i * 2 ^ j + 2 ^ j := Nat.succ_mul _ _
  have hr1 : i * 2 ^ j ≤ 40 * 64 := Nat.mul_le_mul (by omega) hp6
  have hPl := place_small j hj i hi
  have hPw := pow_ok j hj
  obtain ⟨s, hs⟩ : ∃ s, s = 2 ^ j := ⟨_, rfl⟩
  have HS := Lib.hid hs
  rw [← hs] at hq1 hr1 hPl hPw hp0 hp6
  obtain ⟨r, hr⟩ : ∃ r, r = i * s := ⟨_, rfl⟩
  obtain ⟨q, hq⟩ : ∃ q, q = (i + 1) * s := ⟨_, rfl⟩
  have hR : (i : Int) * (s : Int) = (r : Int) := by rw [hr, Int.natCast_mul]
  have hQ : ((i : Int) + 1) * (s : Int) = (q : Int) := by rw [hq, Int.natCast_mul]; rfl
  have hqI : (q : Int) ≤ 3000 := by omega
  have hrI : (r : Int) ≤ 3000 := by omega
  have hqr : (r : Int) ≤ (q : Int) := by omega
  have hsub : (q : Int) - (r : Int) = (s : Int) := by omega
  have hmod : (((r : Int) % (s : Int)) != 0) = false := by
    have : (r : Int) % (s : Int) = 0 := by rw [hr, Int.natCast_mul, Int.mul_emod_left]
    rw [this]; rfl
  have hqe : q = i * s + s := by omega
  rw [← hq, ← hqe, ← hr] at hPl
  by_cases hyes : q ≤ L.length
  · have hPl := hPl (by omega)
    have e4 : decide (L.length < q) = false := decide_eq_false (by omega)
    have hqN : (q : Int) ≤ (L.length : Int) := by omega
    obtain ⟨i9, hi9, _, hsz9, _⟩ := info_parts inf9
    have kS : ∀ (A1 : Option Addr) (c1 : Nat), L.length ≤ c1 → _ := fun A1 c1 hc => print_mid_of (P := Tryd.prog) Value.string ByteArray.empty 22 9 .i64 .i64 Tryd.underlying22 hi9 hsz9 A1 c1 L (r : Int) (q : Int) (by omega) hqr (by omega) hc
    have hTake : (L.take (q : Int).toNat).drop (r : Int).toNat = (L.drop r).take s := by
      rw [Int.toNat_natCast, Int.toNat_natCast, show q = r + s by omega, List.drop_take, Nat.add_sub_cancel_left]
    have hll : ((L.drop r).take s).length = s := by rw [List.length_take, List.length_drop]; omega
    have kR := fun (A : Option Addr) (c : Nat) (W : World) hr hc => RootR_calls 64 ((L.drop r).take s) (by omega) (by omega) (fun x hm => Nat.le_of_eq (hsz x (List.mem_of_mem_drop (List.mem_of_mem_take hm)))) A c W hr hc
    simp only [hTake] at kS
    simp only [Int.toNat_natCast] at kS
    have kD := fun (A : Option Addr) (c : Nat) (W : World) hr hc => Data_calls A c L W hsz (by omega) hr hc
    have hcl := catR_len L hsz
    have hok : ∀ x ∈ catR L, 0 ≤ x ∧ x < 256 := by
      intro x hx
      obtain ⟨b, _, hb⟩ := List.mem_flatMap.1 hx
      exact bytesOf_ok b x hb
    have kN := fun (A : Option Addr) (c : Nat) (W : World) hr hc (hW : Below w.heap.size w W) => callsIn_wide.1 (TNode_in 10 (Nat.le_refl _) A c (catR L) W hr hok hc (by omega) r s (by omega) (by omega) hPw hmod (by omega) (hT.below hW hT.lt) (hG.below hW))
    rw [hs32_cat L hsz] at kN
    have kW := fun W => (callsIn_wide (n := 0)).1 (Width_in (L.length : Int) 0 0 W)
    rw [width_small L.length (by omega)] at kW
    have kBox : ∀ W : World, (W.alloc (.cells #[.int .i64 0, .int .i64 0, .int .i64 (q : Int)] 69)).cell? ⟨W.heap.size, 2, none⟩ = some (.int .i64 q) := fun W => by
      have hn := heap_alloc_new W (.cells #[.int .i64 0, .int .i64 0, .int .i64 (q : Int)] 69)
      unfold World.cell?
      simp only []
      rw [hn]
      rfl
    have kBe : ∀ W : World, Below w.heap.size w W → Below w.heap.size w (W.alloc (.cells #[.int .i64 0, .int .i64 0, .int .i64 (q : Int)] 69)) := fun W hW => hW.alloc hW.size _
    have kB2 : ∀ W : World, Below W.heap.size W (W.alloc (.cells #[.int .i64 0, .int .i64 0, .int .i64 (q : Int)] 69)) := fun W => (Below.refl _ W).alloc (Nat.le_refl _) _
    have hu69 := Tryd.underlying69
    generalize rootH ((L.drop r).take s) = X at *
    generalize ((L.drop r).take s) = L2 at *
    generalize L2.length = N2 at *
    generalize catR L = D at *
    generalize D.length = ND at *
    generalize L.length = N at *
    clear hsz hlen h hT hG hyes hq hr hq1 hr1 hTake hll hi9 hsz9 hbad hPw hmod hok hcl hqe hs hp0 hp6
    have KBE := Lib.hid kBe
    have KB2 := Lib.hid kB2
    clear kBe kB2
    go_enter Tryd.func12, Tryd.ntmps12
    go_wp2_with (first
      | (go_at_call 46; go_loud (with_reducible refine kH.mono ?_; rintro e w1 ⟨A1, c1, rfl, hc1, hs1, hd1, hb1⟩; obtain ⟨A9, hcut, hA9, hC9⟩ := kS A1 c1 hc1; clear kS)))
    go_loopw [8, 9] (fun v8 v9 wr => ∃ k p : Nat, v8 = .int .i64 p ∧ v9 = .int .i64 k ∧ k ≤ j ∧ Hid (p = 2 ^ k) ∧ p ≤ 64 ∧ wr = w1) (fun _ v9 _ => j - (intOf v9).toNat)
    case atStart => exact ⟨0, 1, rfl, rfl, by omega, Lib.hid rfl, by omega, rfl⟩
    case round =>
      obtain ⟨k, p, rfl, rfl, hk, HP, hp, rfl⟩ := hrel
      by_cases hlt : k < j
      · have hd : decide ((k : Int) < (j : Int)) = true := decide_eq_true (by omega)
        have HP2 : Hid (2 * p = 2 ^ (k + 1)) := Lib.hid (by rw [HP.out, Nat.pow_succ, Nat.mul_comm])
        have hp2 : 2 * p ≤ 64 := by
          rw [HP2.out]
          exact Nat.le_trans (Nat.pow_le_pow_right (by omega) hlt) HP6.out
        have hpI : (p : Int) ≤ 64 := by omega
        go_wp2
        exact ⟨⟨k + 1, 2 * p, by go_num, by go_num, by omega, HP2, hp2, trivial⟩, by simp only [intOf]; omega⟩
      · have hd : decide ((k : Int) < (j : Int)) = false := decide_eq_false (by omega)
        have hpe : p = s := by rw [HP.out, show k = j by omega, HS.out]
        subst hpe
        have hpI : (p : Int) ≤ 64 := by omega
        go_wp2_with (first
          | (go_at_call 55; go_loud (refine (T.tiles_Place.calls (j : Int) (i : Int) 0 0 q r 0 _ hPl).mono ?_; rintro e w2 ⟨rfl, hb2⟩; have hB2 := hb1.trans (hb2.mono hb1.size); have hB3 := KBE.out w2 hB2; have h23 := KB2.out w2; have cb := kBox w2; have sr := (hs1.below hb2).below h23; have rd := (hA9 _ hd1).below hb2; have rd3 := rd.below h23; clear hs1 hd1 rd kBox hA9))
          | (go_at_call 56; go_loud (refine (kD _ _ _ sr hc1).mono ?_; rintro e w4 ⟨A4, c4, rfl, hc4, rb4, hb4⟩; have hB4 := hB3.trans (hb4.mono hB3.size); have cb4 := pw_cell_below hb4 cb; have rd4 := rd3.below hb4; clear sr cb rd3 kD))
          | (go_at_call 43; go_loud (refine (kN _ _ _ rb4 hc4 hB4).mono ?_; rintro e w5 ⟨rfl, hb5⟩; have hB5 := hB4.trans (hb5.mono hB4.size); have cb5 := pw_cell_below hb5 cb4; have rd5 := rd4.below hb5; clear rb4 kN rd4)))
        have hwi : IntKind.i64.wrap ((i : Int) + 1) = (i : Int) + 1 := by rw [IntKind.wrap_i64]; omega
        have hwr : IntKind.i64.wrap (r : Int) = (r : Int) := by rw [IntKind.wrap_i64]; omega
        have hwq : IntKind.i64.wrap (q : Int) = (q : Int) := by rw [IntKind.wrap_i64]; omega
        have hqN2 : decide ((q : Int) ≤ (N : Int)) = true := decide_eq_true hqN
        have hqN3 : decide (q ≤ N) = true := decide_eq_true (by omega)
        have kR5 := fun W (hW : Below w5.heap.size w5 W) => kR A9 _ W (rd5.below hW) hC9
        refine wp_region_below rfl (by kernel_rfl) (by kernel_rfl) ?_
        repeat (first
          | (refine wpQuietIn_goG2 (v := ?_) (a' := ?_) rfl (fun _ => trivial) (fun w' hC => qval ?_) rfl ?_ ?_; rotate_left; rotate_left; (have p0 := pw_cell_below hC cb5; go_simp; with_reducible rfl); (simp only [Act.put, List.setIfInBounds_toArray, List.set_cons_zero, List.set_cons_succ, i64_w, i32_w]; rfl))
          | (refine wpQuietIn_goG2 (v := .string X) (a' := ?_) rfl (fun _ => trivial) (fun w' hC => bqcall 40 #[.slice A9 N2 (c1 - r)] ?_ hC (kR5 w' hC)) rfl ?_ ?_; rotate_left; go_simp; (simp only [Act.put, List.setIfInBounds_toArray, List.set_cons_zero, List.set_cons_succ, i64_w, i32_w]; rfl))
          | (refine wpQuietIn_goG2 (v := .int .i64 N) (a' := ?_) rfl (fun _ => trivial) (fun w' hC => bqcall 57 #[.int .i64 N, .int .i64 0, .int .i64 0] ?_ hC (kW w')) rfl ?_ ?_; rotate_left; go_simp; (simp only [Act.put, List.setIfInBounds_toArray, List.set_cons_zero, List.set_cons_succ, i64_w, i32_w]; rfl))
          | (refine wpQuietIn_goG2 (v := .bool true) (a' := ?_) rfl (fun _ => trivial) (fun w' hC => bqcall 44 #[] ?_ hC (kL w')) rfl ?_ ?_; rotate_left; go_simp; (simp only [Act.put, List.setIfInBounds_toArray, List.set_cons_zero, List.set_cons_succ, i64_w, i32_w]; rfl)))
        refine wpQuietIn_nil ?_
        intro w8 hb8
        go_wp2
        go_ret
        exact ⟨rfl, hB5.trans (hb8.mono hB5.size)⟩
  · have e4 : decide (L.length < q) = true := decide_eq_true (by omega)
    generalize L.length = N at *
    clear hsz hlen h hT hG hyes hq hr hq1 hr1 hbad hPl hPw hmod hqe hs hp0 hp6
    go_enter Tryd.func12, Tryd.ntmps12
    go_wp2_with (go_at_call 46; go_loud (with_reducible refine kH.mono ?_; rintro e w1 ⟨A1, c1, rfl, hc1, hs1, _, hb1⟩))
    go_loopw [8, 9] (fun v8 v9 wr => ∃ k p : Nat, v8 = .int .i64 p ∧ v9 = .int .i64 k ∧ k ≤ j ∧ Hid (p = 2 ^ k) ∧ p ≤ 64 ∧ wr = w1) (fun _ v9 _ => j - (intOf v9).toNat)
    case atStart => exact ⟨0, 1, rfl, rfl, by omega, Lib.hid rfl, by omega, rfl⟩
    case round =>
      obtain ⟨k, p, rfl, rfl, hk, HP, hp, rfl⟩ := hrel
      by_cases hlt : k < j
      · have hd : decide ((k : Int) < (j : Int)) = true := decide_eq_true (by omega)
        have HP2 : Hid (2 * p = 2 ^ (k + 1)) := Lib.hid (by rw [HP.out, Nat.pow_succ, Nat.mul_comm])
        have hp2 : 2 * p ≤ 64 := by
          rw [HP2.out]
          exact Nat.le_trans (Nat.pow_le_pow_right (by omega) hlt) HP6.out
        have hpI : (p : Int) ≤ 64 := by omega
        go_wp2
        exact ⟨⟨k + 1, 2 * p, by go_num, by go_num, by omega, HP2, hp2, trivial⟩, by simp only [intOf]; omega⟩
      · have hd : decide ((k : Int) < (j : Int)) = false := decide_eq_false (by omega)
        have hpe : p = s := by rw [HP.out, show k = j by omega, HS.out]
        subst hpe
        have hpI : (p : Int) ≤ 64 := by omega
        go_wp2_with (go_at_call 44; go_loud (refine (kL _).mono ?_; rintro e w3 ⟨rfl, hb3⟩))
        go_ret
        exact ⟨rfl, hb1.trans (hb3.mono hb1.size)⟩
end Go.Proofs.YtoeibcdnhglobaaDoor.P
