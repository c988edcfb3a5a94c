/- pantilelaw10.round, lives: the walks. -/
import Derived.Lib.SlBytesConst
import Derived.Test.YtoeibcdnhglobaaDoorH1
import Derived.Test.YtoeibcdnhglobaaDoorGPOf
import Derived.Test.YtoeibcdnhglobaaDoorGHs10
namespace Go.Proofs.YtoeibcdnhglobaaDoor.P
set_option linter.unusedVariables false
set_option linter.unusedSimpArgs false
open Go.RowKit Go.Shelf Go.Proofs.YtoeibcdnhglobaaDoorW.PrintWords Go.Proofs.YtoeibcdnhglobaaDoorW.PrintLast Go.Proofs.YtoeibcdnhglobaaDoorW.PrintMore
open Go.Proofs.YtoeibcdnhglobaaDoor.Pure

set_option maxHeartbeats 4000000 in
theorem round_calls (n : Int) (most : Nat) (hn0 : -9223372036854775808 ≤ n) (hn1 : n ≤ 9223372036854775807) (h1 : 1 ≤ most) (h2 : most ≤ 1000000) (w : World) :
    Calls Tryd.prog 62 #[.int .i64 n, .int .i64 most] w fun e w' => (∃ r : Nat, r < most ∧ e = .returned (.int .i64 r)) ∧ w' = w := by
  have g1 : (1 : Int) ≤ (most : Int) := by omega
  have g2 : (most : Int) ≤ 1000000 := by omega
  have key : ∀ z : Int, 0 ≤ z → ∃ r : Nat, r < most ∧ z % (most : Int) = r := fun z hz => by
    have h3 := Int.emod_nonneg z (show (most : Int) ≠ 0 by omega)
    have h4 := Int.emod_lt_of_pos z (show (0 : Int) < most by omega)
    exact ⟨(z % (most : Int)).toNat, by omega, by omega⟩
  by_cases hn : n < 0
  · obtain ⟨r, hr, he⟩ := key (-(n + 1)) (by omega)
    have d1 : decide (n < 0) = true := decide_eq_true hn
    have g3 : 0 ≤ -(n + 1) := by omega
    have HE := Lib.hid he
    clear key he h1 h2
    go_enter Tryd.func62, Tryd.ntmps62
    go_wp2
    go_ret
    refine ⟨⟨r, hr, ?_⟩, rfl⟩
    show Ending.returned (.int .i64 (-((n + 1).tmod (most : Int)))) = _
    rw [← Int.neg_tmod, Int.tmod_eq_emod_of_nonneg g3, HE.out]
  · obtain ⟨r, hr, he⟩ := key n (by omega)
    have d1 : decide (n < 0) = false := decide_eq_false hn
    have g3 : 0 ≤ n := by omega
    have HE := Lib.hid he
    clear key he h1 h2
    go_enter Tryd.func62, Tryd.ntmps62
    go_wp2
    go_ret
    refine ⟨⟨r, hr, ?_⟩, rfl⟩
    rw [← HE.out]
    rfl
theorem path_3 (x y z : ByteArray) : pathR [x, y, z] 3 2 0 3 = [nodeH x y] := by
  have h3 : half 3 = 2 := by decide
  unfold pathR
  rw [if_neg (by omega), h3, if_neg (by omega)]
  unfold pathR
  rw [if_pos (by omega)]
  show [] ++ [seg [x, y, z] 0 2] = _
  unfold seg
  rw [List.nil_append]
  show [Tree joinH ByteArray.empty [x, y]] = _
  rw [tree2]; rfl
theorem proof_3 (x y z : ByteArray) : proofR [x, y, z] 3 2 0 3 true = [z] := by
  have h3 : half 3 = 2 := by decide
  unfold proofR
  rw [if_neg (by omega), h3, if_pos (by omega)]
  unfold proofR
  rw [if_pos rfl]
  rfl
section
variable {F : Fence} {n : Nat} {P : Program} {ops : Array Oper} {C : World → Prop}
theorem wpQuietIn_goG {Q : Act → Prop} {o : Oper} {rest : List Oper} {a a' : Act} {N : Option Tmp} {v : Value} (hg : Region.wanted o (yielded ops a.tmps) = true) (hF : ∀ f, F.fn f) (h1 : ∀ w', C w' → o.quietAtIn F n P a C w' v) (hN : o.dst = N) (ha : a.put N v = a')
    (h2 : wpQuietIn F n P ops C Q rest a') : wpQuietIn F n P ops C Q (o :: rest) a := by
  refine ⟨fun w _ f _ => hF f, ?_⟩
  rw [if_pos hg]
  exact ⟨v, h1, by rw [hN, ha]; exact h2⟩
theorem wpQuietIn_skipG {Q : Act → Prop} {o : Oper} {rest : List Oper} {a a' : Act} {N : Option Tmp} (hg : Region.wanted o (yielded ops a.tmps) = false) (hF : ∀ f, F.fn f) (hN : o.dst = N) (ha : a.put N undef = a')
    (h2 : wpQuietIn F n P ops C Q rest a') : wpQuietIn F n P ops C Q (o :: rest) a := by
  refine ⟨fun w _ f _ => hF f, ?_⟩
  rw [if_neg (by rw [hg]; decide), hN, ha]
  exact h2
end
set_option maxRecDepth 100000 in
set_option maxHeartbeats 8000000 in
theorem lives10_calls (w : World) (hT : TzTab w) (hG : GlobH w) : Calls Tryd.prog 49 #[] w fun e w' => e = .returned (.bool true) ∧ Below w.heap.size w w' := by
  have kA : ∀ (x : Int), 0 ≤ x → x < 256 → ∀ (W : World), Below w.heap.size w W → Calls Tryd.prog 38 #[.slice (some ⟨W.heap.size, 0, none⟩) 1 1] (W.alloc (.cells #[.int .u8 x] 5 (1, 2))) fun e w' => e = .returned (.string (leafH [x])) ∧ Below w.heap.size w w' := fun x h0 h1 W hW => by
    have hB := hW.alloc hW.size (.cells #[.int .u8 x] 5 (1, 2))
    have hn := heap_alloc_new W (.cells #[.int .u8 x] 5 (1, 2))
    have hr : ReadsInt (W.alloc (.cells #[.int .u8 x] 5 (1, 2))) .u8 (some ⟨W.heap.size, 0, none⟩) [x].length [x] := by
      refine ⟨rfl, by simp, fun _ => ⟨_, rfl, fun j hj => ?_⟩⟩
      have hj0 : j = 0 := by simpa using hj
      subst hj0
      rw [add_plain]
      unfold World.cell?
      simp only []
      rw [hn]
      rfl
    have hb : ∀ y ∈ [x], 0 ≤ y ∧ y < 256 := by
      intro y hy
      have h2 := List.mem_singleton.1 hy
      omega
    exact (LeafR_calls _ 1 [x] (by simp) _ hr hb).mono fun e w' ⟨he, hb⟩ => ⟨he, hB.trans (hb.mono hB.size)⟩
  have k97 := kA 97 (by omega) (by omega)
  have k98 := kA 98 (by omega) (by omega)
  have k99 := kA 99 (by omega) (by omega)
  have s97 := leafH_size [97]
  have s98 := leafH_size [98]
  have s99 := leafH_size [99]
  generalize leafH [97] = x at *
  generalize leafH [98] = y at *
  generalize leafH [99] = z at *
  have hsz : ∀ s ∈ [x, y, z], s.size ≤ 32 := by
    intro s hs
    simp only [List.mem_cons, List.not_mem_nil, or_false] at hs
    rcases hs with rfl | rfl | rfl <;> omega
  have kO : ∀ (W : World), Below w.heap.size w W → Calls Tryd.prog 47 #[.slice (some ⟨W.heap.size, 0, none⟩) 3 3] (W.alloc (.cells #[.string x, .string y, .string z] 9)) fun e w' => ∃ A K c, e = .returned (.iface 112 (.slice A K c)) ∧ SrcAt w' A K [x, y, z] ∧
      (w'.cell? ⟨W.heap.size, 0, none⟩ = some (.string x) ∧ w'.cell? ⟨W.heap.size, 1, none⟩ = some (.string y) ∧ w'.cell? ⟨W.heap.size, 2, none⟩ = some (.string z)) ∧ Below w.heap.size w w' := fun W hW => by
    have hB := hW.alloc hW.size (.cells #[.string x, .string y, .string z] 9)
    have hn := heap_alloc_new W (.cells #[.string x, .string y, .string z] 9)
    have c0 : (W.alloc (.cells #[.string x, .string y, .string z] 9)).cell? ⟨W.heap.size, 0, none⟩ = some (.string x) := by unfold World.cell?; simp only []; rw [hn]; rfl
    have c1 : (W.alloc (.cells #[.string x, .string y, .string z] 9)).cell? ⟨W.heap.size, 1, none⟩ = some (.string y) := by unfold World.cell?; simp only []; rw [hn]; rfl
    have c2 : (W.alloc (.cells #[.string x, .string y, .string z] 9)).cell? ⟨W.heap.size, 2, none⟩ = some (.string z) := by unfold World.cell?; simp only []; rw [hn]; rfl
    have hrow : StrRow (W.alloc (.cells #[.string x, .string y, .string z] 9)) (some ⟨W.heap.size, 0, none⟩) [x, y, z] := by
      refine .inr ⟨_, rfl, fun j hj => ?_⟩
      simp only [List.length_cons, List.length_nil] at hj
      match j, hj with
      | 0, _ => exact c0
      | 1, _ => exact c1
      | 2, _ => exact c2
    refine (callsIn_wide.1 (Of_in 10 (Nat.le_refl _) (some ⟨W.heap.size, 0, none⟩) 3 [x, y, z] _ hrow (by simp) hsz (hG.below hB))).mono ?_
    rintro e w' ⟨A, K, c, he, hs, hb⟩
    exact ⟨A, K, c, he, hs, ⟨pw_cell_below hb c0, pw_cell_below hb c1, pw_cell_below hb c2⟩, hB.trans (hb.mono hB.size)⟩
  have kI := fun (A : Option Addr) (K c : Nat) (W : World) (hW : Below w.heap.size w W) (s : SrcAt W A K [x, y, z]) => Inclusion_calls A K c 2 3 [x, y, z] W s hsz (by omega) (Nat.le_refl 3) (hT.below hW hT.lt) (hG.below hW)
  have kC := fun (A : Option Addr) (K c : Nat) (W : World) (hW : Below w.heap.size w W) (s : SrcAt W A K [x, y, z]) => Consistency_calls A K c 2 3 [x, y, z] W s hsz (by omega) (by omega) (Nat.le_refl 3) (hT.below hW hT.lt) (hG.below hW)
  rw [path_3] at kI
  rw [proof_3] at kC
  have kN := fun W => NodeR_calls x y (by omega) W
  generalize nodeH x y = N at *
  have kI2 : ∀ (g : Nat) (A : Option Addr) (K c : Nat) (W : World), Below w.heap.size w W → SrcAt W A K [x, y, z] → (W.cell? ⟨g, 0, none⟩ = some (.string x) ∧ W.cell? ⟨g, 1, none⟩ = some (.string y) ∧ W.cell? ⟨g, 2, none⟩ = some (.string z)) →
      Calls Tryd.prog 64 #[.iface 112 (.slice A K c), .int .i64 2, .int .i64 3] W fun e w' => ∃ g1 c1, e = .returned (.tuple #[.slice (some ⟨g1, 0, none⟩) 1 c1, .int .i64 0]) ∧ w'.cell? ⟨g1, 0, none⟩ = some (.string N) ∧ SrcAt w' A K [x, y, z] ∧
      (w'.cell? ⟨g, 0, none⟩ = some (.string x) ∧ w'.cell? ⟨g, 1, none⟩ = some (.string y) ∧ w'.cell? ⟨g, 2, none⟩ = some (.string z)) ∧ Below W.heap.size W w' ∧ Below w.heap.size w w' := fun g A K c W hW s q => by
    refine (kI A K c W hW s).mono ?_
    rintro e w' ⟨v, he, ho, hb⟩
    obtain ⟨g1, c1, rfl, _⟩ := World.ownsRow.form ho (by simp)
    have h0 := World.ownsRow.cellAt ho 0 (by simp)
    exact ⟨g1, c1, he, h0, s.below hb, ⟨pw_cell_below hb q.1, pw_cell_below hb q.2.1, pw_cell_below hb q.2.2⟩, hb, hW.trans (hb.mono hW.size)⟩
  have kC2 : ∀ (g : Nat) (A : Option Addr) (K c : Nat) (W : World), Below w.heap.size w W → SrcAt W A K [x, y, z] → (W.cell? ⟨g, 0, none⟩ = some (.string x) ∧ W.cell? ⟨g, 1, none⟩ = some (.string y) ∧ W.cell? ⟨g, 2, none⟩ = some (.string z)) →
      Calls Tryd.prog 48 #[.iface 112 (.slice A K c), .int .i64 2, .int .i64 3] W fun e w' => ∃ g1 c1, e = .returned (.tuple #[.slice (some ⟨g1, 0, none⟩) 1 c1, .int .i64 0]) ∧ w'.cell? ⟨g1, 0, none⟩ = some (.string z) ∧ SrcAt w' A K [x, y, z] ∧
      (w'.cell? ⟨g, 0, none⟩ = some (.string x) ∧ w'.cell? ⟨g, 1, none⟩ = some (.string y) ∧ w'.cell? ⟨g, 2, none⟩ = some (.string z)) ∧ Below W.heap.size W w' ∧ Below w.heap.size w w' := fun g A K c W hW s q => by
    refine (kC A K c W hW s).mono ?_
    rintro e w' ⟨v, he, ho, hb⟩
    obtain ⟨g1, c1, rfl, _⟩ := World.ownsRow.form ho (by simp)
    have h0 := World.ownsRow.cellAt ho 0 (by simp)
    exact ⟨g1, c1, he, h0, s.below hb, ⟨pw_cell_below hb q.1, pw_cell_below hb q.2.1, pw_cell_below hb q.2.2⟩, hb, hW.trans (hb.mono hW.size)⟩
  have kc := fun (w : World) (C : Array Value) (n c : Nat) => Lib.run_convert_bytes_const (P := Tryd.prog) w 47 5 C n c Tryd.underlying47 Tryd.underlying5
  have hB := Below.refl w.heap.size w
  clear hsz s97 s98 s99 hT hG kA kI kC
  go_enter Tryd.func49, Tryd.ntmps49
  go_wp2_with (first
    | (go_at_call 38; first | (with_reducible refine (k97 _ hB).mono ?_; rintro e w9 ⟨rfl, hB9⟩; clear hB k97; have hB := hB9; clear hB9) | (with_reducible refine (k98 _ hB).mono ?_; rintro e w9 ⟨rfl, hB9⟩; clear hB k98; have hB := hB9; clear hB9) | (with_reducible refine (k99 _ hB).mono ?_; rintro e w9 ⟨rfl, hB9⟩; clear hB k99; have hB := hB9; clear hB9))
    | (go_at_call 47; go_loud (refine (kO _ hB).mono ?_; rintro e w5 ⟨A5, K5, c5, rfl, hs5, hq5, hB5⟩))
    | (go_at_call 64; go_loud (refine (kI2 _ _ _ _ _ hB5 hs5 hq5).mono ?_; rintro e w6 ⟨g6, c6, rfl, hc6, hs6, hq6, _, hB6⟩; clear hB5 hs5 hq5))
    | (go_at_call 48; go_loud (refine (kC2 _ _ _ _ _ hB6 hs6 hq6).mono ?_; rintro e w7 ⟨g7, c7, rfl, hc7, hs7, ⟨q0, q1, q2⟩, hb7, hB7⟩; have hc6 := pw_cell_below hb7 hc6; clear hb7 hB6 hs6 hq6)))
  clear kO kI2 kC2 kc
  refine wp_region_below rfl (by kernel_rfl) (by kernel_rfl) ?_
  repeat (first
    | (refine wpQuietIn_goG (v := ?_) (a' := ?_) rfl (fun _ => trivial) (fun w' hC => qval ?_) rfl ?_ ?_; rotate_left; rotate_left; (have p0 := pw_cell_below hC q0; have p1 := pw_cell_below hC q1; have p2 := pw_cell_below hC q2; have p3 := pw_cell_below hC hc6; have p4 := pw_cell_below hC hc7; go_simp; with_reducible rfl); (simp only [Act.put, List.setIfInBounds_toArray, List.set_cons_zero, List.set_cons_succ, i64_w, i32_w]; rfl))
    | (refine wpQuietIn_goG (v := .string N) (a' := ?_) rfl (fun _ => trivial) (fun w' hC => bqcall 42 #[.string x, .string y] ?_ hC (kN w')) rfl ?_ ?_; rotate_left; go_simp; (simp only [Act.put, List.setIfInBounds_toArray, List.set_cons_zero, List.set_cons_succ, i64_w, i32_w]; rfl)))
  refine wpQuietIn_nil ?_
  intro w8 hb8
  go_wp2
  go_ret
  exact ⟨rfl, hB7.trans (hb8.mono hB7.size)⟩
end Go.Proofs.YtoeibcdnhglobaaDoor.P
