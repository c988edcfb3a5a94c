/- Texts of the seat, joined: GRefHash, GFew, GRootR, GLeaves. -/
import Derived.Test.YtoeibcdnhglobaaDoorF2
import Derived.Test.YtoeibcdnhglobaaDoorE6
import Derived.Test.YtoeibcdnhglobaaDoorF1
/- pantileref01.Sum256, pantileref09.LeafHash, NodeHash: the walks. -/
namespace Go.Proofs.YtoeibcdnhglobaaDoor.P
set_option linter.unusedVariables false
set_option linter.unusedSimpArgs false
open Go.RowKit Go.Shelf Go.Proofs.YtoeibcdnhglobaaDoorW.PrintWords Go.Proofs.YtoeibcdnhglobaaDoorW.PrintLast Go.Proofs.YtoeibcdnhglobaaDoorW.PrintMore
open Go.Proofs.YtoeibcdnhglobaaDoor.Pure

set_option maxRecDepth 100000 in
set_option maxHeartbeats 8000000 in
theorem Sum256R_calls (d : List Int) (A : Option Addr) (c : Nat) (w : World) (hr : ReadsInt w .u8 A d.length d) (hb : ∀ x ∈ d, 0 ≤ x ∧ x < 256) (hl : d.length < 549755813888) :
    Calls Tryd.prog 87 #[.slice A d.length c] w fun e w' => ∃ v', e = .returned v' ∧ OwnB w' w.heap.size v' (shaN d) ∧ Below w.heap.size w w' := by
  have hO := Of_calls w
  have HR := Lib.hid hr
  have HBY := Lib.hid hb
  have HL := Lib.hid hl
  clear hr hb hl
  go_enter Tryd.func87, Tryd.ntmps87
  go_wp2_with (first
    | (go_at_call 115; with_reducible refine hO.mono ?_; rintro e w1 ⟨p, g6, g7, c6, c7, rfl, hW1, hF1, hb1⟩; have kS := fun (W : World) (hW : Below w1.heap.size w1 W) => SumR_calls p g6 g7 c6 c7 d A c W (hW1.below hW) (hF1.below hW) ((HR.out.below hb1).below hW) HBY.out HL.out; have hBw := fun (o : Obj) => (Below.refl w1.heap.size w1).alloc (Nat.le_refl _) o; have HB1 := Lib.hid hb1; clear hW1 hF1 hb1 hO)
    | (go_at_call 116; with_reducible refine (kS _ (hBw _)).mono ?_; rintro e w2 ⟨v2, rfl, hown2, hb2⟩; have HO2 := Lib.hid hown2; have HB2 := Lib.hid hb2; clear hown2 hb2 kS))
  go_ret
  have h1 := HB1.out
  have h2 := hBw (.cells #[.int .i64 32, .int .i64 64, .slice (some ⟨p, 0, none⟩) 3 3, .slice (some ⟨p + 1, 0, none⟩) 3 3, .slice (some ⟨p + 1 + 1, 0, none⟩) 3 3, .slice (some ⟨p + 1 + 1 + 1, 0, none⟩) 3 3, .slice (some ⟨g6, 0, none⟩) 64 c6, .slice (some ⟨g7, 0, none⟩) 8 c7] 144)
  exact ⟨v2, rfl, own_weaken HO2.out (Nat.le_trans h1.size h2.size), (h1.trans (h2.mono h1.size)).trans (HB2.out.mono (Nat.le_trans h1.size h2.size))⟩
set_option maxRecDepth 100000 in
set_option maxHeartbeats 4000000 in
theorem LeafR_calls (A : Option Addr) (c : Nat) (l : List Int) (hl : l.length < 549755813800) (w : World) (hr : ReadsInt w .u8 A l.length l) (hb : ∀ x ∈ l, 0 ≤ x ∧ x < 256) :
    Calls Tryd.prog 38 #[.slice A l.length c] w fun e w' => e = .returned (.string (leafH l)) ∧ Below w.heap.size w w' := by
  have h1 : Below w.heap.size w (w.alloc (.cells #[.int .u8 0] 5)) := (Below.refl _ w).alloc (Nat.le_refl _) _
  have ho : OwnB (w.alloc (.cells #[.int .u8 0] 5)) w.heap.size (.slice (some ⟨w.heap.size, 0, none⟩) 1 1) [0] := own_lit w w.heap.size 5 .u8 [0] (Nat.le_refl _) (by decide)
  have hr1 := hr.below h1
  have hs1 := h1.size
  have hl1 : (([0] : List Int).length + l.length) * 1 ≤ 140737488355328 := by simp only [List.length_cons, List.length_nil]; omega
  obtain ⟨L, hL⟩ : ∃ L, L = [0] ++ l := ⟨_, rfl⟩
  obtain ⟨D, hD⟩ : ∃ D, D = shaN L := ⟨_, rfl⟩
  have kS := fun (W : World) (A : Option Addr) (c : Nat) (h : ReadsInt W .u8 A L.length L) => Sum256R_calls L A c W h (by
    intro x hx
    rw [hL] at hx
    rcases List.mem_append.1 hx with hx | hx
    · have : x = 0 := by simpa using hx
      omega
    · exact hb x hx) (by rw [hL]; simp; omega)
  rw [← hD] at kS
  have HL := Lib.hid hL
  have HD := Lib.hid hD
  clear hL hD
  have hstr := fun (W : World) (A : Option Addr) (n c : Nat) (xs : List Int) (h : ReadsInt W .u8 A n xs) => string_of_reads (P := Tryd.prog) (src := 47) (dst := 9) (c := c) Tryd.underlying47 Tryd.underlying5 Tryd.underlying9 h
  have HSTR := Lib.hid hstr
  clear hr hb hstr
  go_enter Tryd.func38, Tryd.ntmps38
  go_wp2_with (first
    | (at_builtin; go_loud (refine print_append_row (w0 := w) w.heap.size rfl _ _ 47 5 .u8 1 rfl Tryd.underlying47 inf5 (by decide) (.slice (some ⟨w.heap.size, 0, none⟩) 1 1) [0] l A l.length c rfl rfl ho hr1 h1 hs1 hl1 ?_; intro v1 w1 hown1 hB1 _ _; rw [← HL.out] at hown1; obtain ⟨A1, c1, rfl, _⟩ := own_form hown1; have hrd := own_reads' hown1; have HB1 := Lib.hid hB1; clear hown1 hB1))
    | (go_at_call 87; go_loud (refine (kS _ _ _ hrd).mono ?_; rintro e w5 ⟨v5, rfl, ho5, hb5⟩; obtain ⟨A5, c5, rfl, _⟩ := own_form ho5; have hcv := HSTR.out w5 A5 _ c5 _ (own_reads' ho5); have HB5 := Lib.hid hb5; clear ho5 hb5)))
  go_ret
  exact ⟨by rw [HD.out, HL.out]; rfl, HB1.out.trans (HB5.out.mono HB1.out.size)⟩
set_option maxRecDepth 100000 in
set_option maxHeartbeats 4000000 in
theorem NodeR_calls (a b : ByteArray) (hs : a.size + b.size < 549755813800) (w : World) :
    Calls Tryd.prog 42 #[.string a, .string b] w fun e w' => e = .returned (.string (nodeH a b)) ∧ Below w.heap.size w w' := by
  have h1 : Below w.heap.size w (w.alloc (.cells #[.int .u8 1] 5)) := (Below.refl _ w).alloc (Nat.le_refl _) _
  have ho : OwnB (w.alloc (.cells #[.int .u8 1] 5)) w.heap.size (.slice (some ⟨w.heap.size, 0, none⟩) 1 1) [1] := own_lit w w.heap.size 5 .u8 [1] (Nat.le_refl _) (by decide)
  have hs1 := h1.size
  have la := bytesOf_length a
  have lb := bytesOf_length b
  obtain ⟨L1, hL1⟩ : ∃ L, L = [1] ++ bytesOf a := ⟨_, rfl⟩
  obtain ⟨L, hL⟩ : ∃ L, L = L1 ++ bytesOf b := ⟨_, rfl⟩
  obtain ⟨D, hD⟩ : ∃ D, D = shaN L := ⟨_, rfl⟩
  have hl1 : ([1] : List Int).length + a.size ≤ 140737488355328 := by simp only [List.length_cons, List.length_nil]; omega
  have hl2 : L1.length + b.size ≤ 140737488355328 := by rw [hL1]; simp [la]; omega
  have kS := fun (W : World) (A : Option Addr) (c : Nat) (h : ReadsInt W .u8 A L.length L) => Sum256R_calls L A c W h (by
    intro x hx
    rw [hL, hL1] at hx
    rcases List.mem_append.1 hx with hx | hx
    · rcases List.mem_append.1 hx with hx | hx
      · have : x = 1 := by simpa using hx
        omega
      · exact bytesOf_ok a x hx
    · exact bytesOf_ok b x hx) (by rw [hL, hL1]; simp [la, lb]; omega)
  rw [← hD] at kS
  have HL1 := Lib.hid hL1
  have HL := Lib.hid hL
  have HD := Lib.hid hD
  have hstr := fun (W : World) (A : Option Addr) (n c : Nat) (xs : List Int) (h : ReadsInt W .u8 A n xs) => string_of_reads (P := Tryd.prog) (src := 47) (dst := 9) (c := c) Tryd.underlying47 Tryd.underlying5 Tryd.underlying9 h
  have HSTR := Lib.hid hstr
  clear hL1 hL hD hstr la lb
  go_enter Tryd.func42, Tryd.ntmps42
  go_wp2_with (first
    | (at_builtin; go_loud (refine print_append_str (w0 := w) w.heap.size rfl _ _ 47 9 5 rfl Tryd.underlying47 Tryd.underlying9 inf5 (.slice (some ⟨w.heap.size, 0, none⟩) 1 1) [1] a rfl rfl ho h1 hs1 hl1 ?_; intro v1 w1 hown1 hB1 _; rw [← HL1.out] at hown1; obtain ⟨A1, c1, rfl, _⟩ := own_form hown1; have hs2 := Nat.le_trans hs1 (Nat.le_refl _); have hsw : w.heap.size ≤ w1.heap.size := hB1.size; clear ho h1 hs1 hl1))
    | (at_builtin; go_loud (refine print_append_str (w0 := w) w.heap.size rfl _ _ 47 9 5 rfl Tryd.underlying47 Tryd.underlying9 inf5 (.slice A1 L1.length c1) L1 b rfl rfl hown1 hB1 hsw hl2 ?_; intro v2 w2 hown2 hB2 _; rw [← HL.out] at hown2; obtain ⟨A2, c2, rfl, _⟩ := own_form hown2; have hrd := own_reads' hown2; have HB2 := Lib.hid hB2; clear hown2 hB2 hown1 hB1))
    | (go_at_call 87; go_loud (refine (kS _ _ _ hrd).mono ?_; rintro e w5 ⟨v5, rfl, ho5, hb5⟩; obtain ⟨A5, c5, rfl, _⟩ := own_form ho5; have hcv := HSTR.out w5 A5 _ c5 _ (own_reads' ho5); have HB5 := Lib.hid hb5; clear ho5 hb5)))
  go_ret
  exact ⟨by rw [HD.out, HL.out, HL1.out]; rfl, HB2.out.trans (HB5.out.mono HB2.out.size)⟩
end Go.Proofs.YtoeibcdnhglobaaDoor.P

/- pantilelaw09.PeaksFew: the walk. -/
namespace Go.Proofs.YtoeibcdnhglobaaDoor.P
set_option linter.unusedVariables false
set_option linter.unusedSimpArgs false
open Go.RowKit Go.Shelf Go.Proofs.YtoeibcdnhglobaaDoorW.PrintWords Go.Proofs.YtoeibcdnhglobaaDoorW.PrintLast Go.Proofs.YtoeibcdnhglobaaDoorW.PrintMore
open Go.Proofs.YtoeibcdnhglobaaDoor.Pure

theorem tree1 {α : Type} (J : α → α → α) (z a : α) : Tree J z [a] = a := rfl
theorem tree2 {α : Type} (J : α → α → α) (z a b : α) : Tree J z [a, b] = J a b := by
  rw [Tree_two J z [a, b] (by simp)]; rfl
theorem tree3 {α : Type} (J : α → α → α) (z a b c : α) : Tree J z [a, b, c] = J (J a b) c := by
  rw [Tree_two J z [a, b, c] (by simp)]
  have h : half ([a, b, c] : List α).length = 2 := show half 3 = 2 from by decide
  rw [h]
  show J (Tree J z [a, b]) (Tree J z [c]) = _
  rw [tree2, tree1]
theorem root1 (a : ByteArray) : rootH [a] = a := by rw [rootH, if_neg (by simp), tree1]
theorem root2 (a b : ByteArray) : rootH [a, b] = nodeH a b := by rw [rootH, if_neg (by simp), tree2]; rfl
theorem root3 (a b c : ByteArray) : rootH [a, b, c] = nodeH (nodeH a b) c := by rw [rootH, if_neg (by simp), tree3]; rfl
theorem strs_lit (W : World) (xs : List ByteArray) (h : xs.length ≤ 9223372036854775807) : ReadsOf Value.string ByteArray.empty (W.alloc (.cells (xs.map Value.string).toArray 9)) (some ⟨W.heap.size, 0, none⟩) xs.length xs := by
  refine ⟨rfl, h, fun _ => ⟨_, rfl, fun j hj => ?_⟩⟩
  rw [add_plain]
  have hn := heap_alloc_new W (.cells (xs.map Value.string).toArray 9)
  unfold World.cell?
  simp only []
  rw [hn]
  simp [List.getD_eq_getElem?_getD, hj]
/-- What a leaf's bytes, cut at 60, are worth. -/
theorem leaf_case (A : Option Addr) (c : Nat) (l : List Int) (w : World) (hr : ReadsInt w .u8 A l.length l) (hc : l.length ≤ c) (hb : ∀ x ∈ l, 0 ≤ x ∧ x < 256) (hG : GlobH w) :
    ∃ (m : Nat) (x : ByteArray), x.size = 32 ∧
      (∀ W, Below w.heap.size w W → Calls Tryd.prog 37 #[.slice A m c] W fun e w' => e = .returned (.string x) ∧ Below w.heap.size w w') ∧
      (∀ W, Below w.heap.size w W → Calls Tryd.prog 38 #[.slice A m c] W fun e w' => e = .returned (.string x) ∧ Below w.heap.size w w') ∧
      ((decide ((60 : Int) < (l.length : Int)) = true ∧ m = 60 ∧ (60 : Int) ≤ (c : Int)) ∨ (decide ((60 : Int) < (l.length : Int)) = false ∧ m = l.length)) := by
  have key : ∀ (l2 : List Int), l2.length ≤ 60 → ReadsInt w .u8 A l2.length l2 → (∀ x ∈ l2, 0 ≤ x ∧ x < 256) →
      (∀ W, Below w.heap.size w W → Calls Tryd.prog 37 #[.slice A l2.length c] W fun e w' => e = .returned (.string (leafH l2)) ∧ Below w.heap.size w w') ∧
      (∀ W, Below w.heap.size w W → Calls Tryd.prog 38 #[.slice A l2.length c] W fun e w' => e = .returned (.string (leafH l2)) ∧ Below w.heap.size w w') := fun l2 hl hr2 hb2 =>
    ⟨fun W hW => (LeafHash_calls A c l2 (by omega) W (hr2.below hW) hb2 (hG.below hW)).mono fun e w' ⟨he, hw⟩ => ⟨he, hW.trans (hw.mono hW.size)⟩,
     fun W hW => (LeafR_calls A c l2 (by omega) W (hr2.below hW) hb2).mono fun e w' ⟨he, hw⟩ => ⟨he, hW.trans (hw.mono hW.size)⟩⟩
  by_cases h : 60 < l.length
  · have hl : (l.take 60).length = 60 := by rw [List.length_take]; omega
    have k := key (l.take 60) (by omega) (by rw [hl]; exact hr.take_ 60 (by omega)) (fun x hx => hb x (List.mem_of_mem_take hx))
    rw [hl] at k
    exact ⟨60, leafH (l.take 60), leafH_size _, k.1, k.2, .inl ⟨decide_eq_true (by omega), rfl, by omega⟩⟩
  · have k := key l (by omega) hr hb
    exact ⟨l.length, leafH l, leafH_size _, k.1, k.2, .inr ⟨decide_eq_false (by omega), rfl⟩⟩
set_option maxRecDepth 100000 in
set_option maxHeartbeats 8000000 in
theorem PeaksFew_calls (A0 A1 A2 : Option Addr) (c0 c1 c2 : Nat) (l0 l1 l2 : List Int) (w : World)
    (hr0 : ReadsInt w .u8 A0 l0.length l0) (hc0 : l0.length ≤ c0) (hb0 : ∀ x ∈ l0, 0 ≤ x ∧ x < 256)
    (hr1 : ReadsInt w .u8 A1 l1.length l1) (hc1 : l1.length ≤ c1) (hb1 : ∀ x ∈ l1, 0 ≤ x ∧ x < 256)
    (hr2 : ReadsInt w .u8 A2 l2.length l2) (hc2 : l2.length ≤ c2) (hb2 : ∀ x ∈ l2, 0 ≤ x ∧ x < 256) (hT : TzTab w) (hG : GlobH w) :
    Calls Tryd.prog 7 #[.slice A0 l0.length c0, .slice A1 l1.length c1, .slice A2 l2.length c2] w fun e w' => e = .returned (.bool true) ∧ Below w.heap.size w w' := by
  obtain ⟨m0, x0, hx0, kL0, kR0, hcase0⟩ := leaf_case A0 c0 l0 w hr0 hc0 hb0 hG
  obtain ⟨m1, x1, hx1, kL1, _, hcase1⟩ := leaf_case A1 c1 l1 w hr1 hc1 hb1 hG
  obtain ⟨m2, x2, hx2, kL2, _, hcase2⟩ := leaf_case A2 c2 l2 w hr2 hc2 hb2 hG
  have kR : ∀ (xs : List ByteArray), xs.length ≤ 3 → (∀ s ∈ xs, s.size ≤ 32) → ∀ W, Below w.heap.size w W → Calls Tryd.prog 39 #[.slice (some ⟨W.heap.size, 0, none⟩) xs.length xs.length] (W.alloc (.cells (xs.map Value.string).toArray 9)) fun e w' => e = .returned (.string (rootH xs)) ∧ Below w.heap.size w w' := fun xs hl hs W hW => by
    have hB := hW.alloc hW.size (.cells (xs.map Value.string).toArray 9)
    exact (Root_calls _ xs.length xs _ (strs_lit W xs (by omega)) hs (by omega) (hT.below hB hT.lt) (hG.below hB)).mono fun e w' ⟨he, hw⟩ => ⟨he, hB.trans (hw.mono hB.size)⟩
  have kR1 := kR [x0] (by simp) (by simp [hx0])
  have kR2 := kR [x0, x1] (by simp) (by simp [hx0, hx1])
  have kR3 := kR [x0, x1, x2] (by simp) (by simp [hx0, hx1, hx2])
  rw [root1] at kR1
  rw [root2] at kR2
  rw [root3] at kR3
  have kN : ∀ (a b : ByteArray), a.size + b.size < 1000 → ∀ W, Below w.heap.size w W → Calls Tryd.prog 42 #[.string a, .string b] W fun e w' => e = .returned (.string (nodeH a b)) ∧ Below w.heap.size w w' := fun a b hs W hW =>
    (NodeR_calls a b (by omega) W).mono fun e w' ⟨he, hw⟩ => ⟨he, hW.trans (hw.mono hW.size)⟩
  have kN1 := kN x0 x1 (by omega)
  have kN2 := kN (nodeH x0 x1) x2 (by rw [nodeH_size]; omega)
  have kV : ∀ W, Below w.heap.size w W → Calls Tryd.prog 27 #[] W fun e w' => e = .returned (.bool true) ∧ Below w.heap.size w w' := fun W hW =>
    (lives09_calls W (hT.below hW hT.lt)).mono fun e w' ⟨he, hw⟩ => ⟨he, hW.trans (hw.mono hW.size)⟩
  have hB := Below.refl w.heap.size w
  generalize nodeH (nodeH x0 x1) x2 = y2 at *
  generalize nodeH x0 x1 = y1 at *
  simp only [List.map_cons, List.map_nil, List.length_cons, List.length_nil] at kR1 kR2 kR3
  have hz0 : (x0.size : Int) = 32 := by omega
  clear kR kN hr0 hr1 hr2 hb0 hb1 hb2 hT hG hx0 hx1 hx2 hc0 hc1 hc2
  rcases hcase0 with ⟨h0, rfl, g0⟩ | ⟨h0, rfl⟩ <;> rcases hcase1 with ⟨h1, rfl, g1⟩ | ⟨h1, rfl⟩ <;> rcases hcase2 with ⟨h2, rfl, g2⟩ | ⟨h2, rfl⟩
  all_goals
    go_enter Tryd.func7, Tryd.ntmps7
    go_wp2_with (first
      | (go_at_call 37; first | (with_reducible refine (kL0 _ hB).mono ?_; rintro e w9 ⟨rfl, hB9⟩; clear hB; have hB := hB9; clear hB9) | (with_reducible refine (kL1 _ hB).mono ?_; rintro e w9 ⟨rfl, hB9⟩; clear hB; have hB := hB9; clear hB9) | (with_reducible refine (kL2 _ hB).mono ?_; rintro e w9 ⟨rfl, hB9⟩; clear hB; have hB := hB9; clear hB9))
      | (go_at_call 39; first | (with_reducible refine (kR1 _ hB).mono ?_; rintro e w9 ⟨rfl, hB9⟩; clear hB; have hB := hB9; clear hB9) | (with_reducible refine (kR2 _ hB).mono ?_; rintro e w9 ⟨rfl, hB9⟩; clear hB; have hB := hB9; clear hB9) | (with_reducible refine (kR3 _ hB).mono ?_; rintro e w9 ⟨rfl, hB9⟩; clear hB; have hB := hB9; clear hB9))
      | (go_at_call 42; first | (with_reducible refine (kN1 _ hB).mono ?_; rintro e w9 ⟨rfl, hB9⟩; clear hB; have hB := hB9; clear hB9) | (with_reducible refine (kN2 _ hB).mono ?_; rintro e w9 ⟨rfl, hB9⟩; clear hB; have hB := hB9; clear hB9))
      | (go_at_call 38; (with_reducible refine (kR0 _ hB).mono ?_; rintro e w9 ⟨rfl, hB9⟩; clear hB; have hB := hB9; clear hB9))
      | (go_at_call 27; (with_reducible refine (kV _ hB).mono ?_; rintro e w9 ⟨rfl, hB9⟩; clear hB; have hB := hB9; clear hB9)))
    go_ret
    exact ⟨rfl, hB⟩
end Go.Proofs.YtoeibcdnhglobaaDoor.P

/- pantileref09.Root: the walk. -/
namespace Go.Proofs.YtoeibcdnhglobaaDoor.P
set_option linter.unusedVariables false
set_option linter.unusedSimpArgs false
open Go.RowKit Go.Shelf Go.Proofs.YtoeibcdnhglobaaDoorW.PrintWords Go.Proofs.YtoeibcdnhglobaaDoorW.PrintLast Go.Proofs.YtoeibcdnhglobaaDoorW.PrintMore
open Go.Proofs.YtoeibcdnhglobaaDoor.Pure

theorem Tree_sz (l : List ByteArray) (hs : ∀ s ∈ l, s.size ≤ 32) : (Tree joinH ByteArray.empty l).size ≤ 32 := by
  match l with
  | [] => exact Nat.zero_le _
  | [x] => exact hs x (List.mem_cons_self ..)
  | x :: y :: r => rw [Tree_two joinH ByteArray.empty (x :: y :: r) (by simp)]; exact Nat.le_of_eq (nodeH_size _ _)
theorem rootH_pos (l : List ByteArray) (h : 0 < l.length) : rootH l = Tree joinH ByteArray.empty l := by rw [rootH, if_neg (by omega)]
set_option maxRecDepth 100000 in
set_option maxHeartbeats 4000000 in
theorem RootR_calls (d : Nat) : ∀ (l : List ByteArray) (hd : l.length ≤ d) (hm : l.length < 1099511627776) (hs : ∀ s ∈ l, s.size ≤ 32) (A : Option Addr) (c : Nat) (w : World) (hr : ReadsOf Value.string ByteArray.empty w A l.length l) (hc : l.length ≤ c),
    Calls Tryd.prog 40 #[.slice A l.length c] w fun e w' => e = .returned (.string (rootH l)) ∧ Below w.heap.size w w' := by
  have hstr := fun (W : World) (A : Option Addr) (n c : Nat) (xs : List Int) (h : ReadsInt W .u8 A n xs) => string_of_reads (P := Tryd.prog) (src := 47) (dst := 9) (c := c) Tryd.underlying47 Tryd.underlying5 Tryd.underlying9 h
  have HSTR := Lib.hid hstr
  clear hstr
  have kE : ∀ (W : World), Calls Tryd.prog 87 #[.slice none 0 0] W fun e w' => ∃ v', e = .returned v' ∧ OwnB w' W.heap.size v' (shaN []) ∧ Below W.heap.size W w' := fun W => Sum256R_calls [] none 0 W ⟨rfl, by simp, fun h => absurd h (Nat.lt_irrefl 0)⟩ (fun x hx => (by cases hx)) (by simp)
  have nil_ : ∀ (A : Option Addr) (c : Nat) (w : World), Calls Tryd.prog 40 #[.slice A ([] : List ByteArray).length c] w fun e w' => e = .returned (.string (rootH [])) ∧ Below w.heap.size w w' := by
    intro A c w
    go_enter Tryd.func40, Tryd.ntmps40
    go_wp2_with (go_at_call 87; go_loud (refine (kE _).mono ?_; rintro e w5 ⟨v5, rfl, ho5, hb5⟩; obtain ⟨A5, c5, rfl, _⟩ := own_form ho5; have hcv := HSTR.out w5 A5 _ c5 _ (own_reads' ho5); have HB5 := Lib.hid hb5; clear ho5 hb5))
    go_ret
    exact ⟨rfl, HB5.out⟩
  induction d with
  | zero =>
    intro l hd hm hs A c w hr hc
    obtain rfl : l = [] := List.length_eq_zero_iff.1 (by omega)
    exact nil_ A c w
  | succ d ih =>
    intro l hd hm hs A c w hr hc
    match l, hd with
    | [], _ => exact nil_ A c w
    | [x], _ =>
      clear hs ih hm kE nil_
      obtain ⟨ad, rfl, hcell⟩ := hr.at_ 0 (Int.le_refl 0) (by simp)
      have hx : rdOf ByteArray.empty [x] 0 = x := rfl
      rw [hx] at hcell
      have hcell' : w.cell? ad = some (.string x) := by simpa [Addr.add] using hcell
      clear hcell hx
      have g1 : (0 : Int) < (([x] : List ByteArray).length : Int) := by simp
      rw [root1]
      go_enter Tryd.func40, Tryd.ntmps40
      go_wp2
      go_ret
      exact ⟨rfl, Below.refl _ _⟩
    | x :: y :: r, hd =>
      clear kE nil_
      have hlen2 : 2 ≤ (x :: y :: r).length := by simp
      have hT := Tree_two joinH ByteArray.empty (x :: y :: r) hlen2
      have hR := rootH_pos (x :: y :: r) (by simp)
      generalize hl : (x :: y :: r) = l at *
      clear hl
      have hh := half_lt hlen2
      obtain ⟨i9, hi9, _, hsz9, _⟩ := info_parts inf9
      have hq : ((half l.length : Nat) : Int).toNat = half l.length := Int.toNat_natCast _
      obtain ⟨hcut1, hA1, hC1⟩ := print_take_of (P := Tryd.prog) Value.string ByteArray.empty 22 9 .i64 Tryd.underlying22 hi9 hsz9 A c l (half l.length : Nat) (by omega) (by omega) hc
      obtain ⟨A2, hcut2, hA2, hC2⟩ := print_drop_of (P := Tryd.prog) Value.string ByteArray.empty 22 9 .i64 Tryd.underlying22 hi9 hsz9 A c l (half l.length : Nat) (by omega) (by omega) hc
      have hr1 := hA1 w hr
      have hr2 := hA2 w hr
      rw [hq] at hr1 hr2 hC1 hC2 hcut1 hcut2
      have l1 : (l.take (half l.length)).length = half l.length := by rw [List.length_take]; omega
      have l2 : (l.drop (half l.length)).length = l.length - half l.length := by rw [List.length_drop]
      have s1 := Tree_sz (l.take (half l.length)) (fun s h => hs s (List.mem_of_mem_take h))
      have s2 := Tree_sz (l.drop (half l.length)) (fun s h => hs s (List.mem_of_mem_drop h))
      have k1 := fun w' (hw : Below w.heap.size w w') => ih (l.take (half l.length)) (by omega) (by omega) (fun s h => hs s (List.mem_of_mem_take h)) A c w' (hr1.below hw) (by omega)
      have k2 := fun w' (hw : Below w.heap.size w w') => ih (l.drop (half l.length)) (by omega) (by omega) (fun s h => hs s (List.mem_of_mem_drop h)) A2 (c - half l.length) w' (hr2.below hw) (by omega)
      have kh := Half_calls l.length hlen2 hm
      rw [rootH_pos _ (by omega)] at k1
      rw [rootH_pos _ (by omega)] at k2
      rw [hR, hT]
      show Calls _ _ _ _ fun e w' => e = .returned (.string (nodeH _ _)) ∧ _
      generalize Tree joinH ByteArray.empty (l.take (half l.length)) = X at *
      generalize Tree joinH ByteArray.empty (l.drop (half l.length)) = Y at *
      have kN := fun w' => NodeR_calls X Y (by omega) w'
      have e0 : ((l.length : Int) == 0) = false := beq_eq_false_iff_ne.2 (by omega)
      have e1 : ((l.length : Int) == 1) = false := beq_eq_false_iff_ne.2 (by omega)
      clear hd hm hs hr hT hR hA1 hA2 hr1 hr2 hi9 hsz9 hC1 hC2 hlen2 hq ih l1 l2 s1 s2
      generalize hgh : half l.length = m at *
      generalize (List.take m l).length = n1 at *
      generalize (List.drop m l).length = n2 at *
      generalize c - m = c2v at *
      go_enter Tryd.func40, Tryd.ntmps40
      go_wp2_with (go_at_call 83; refine (kh _).mono ?_; rintro e w' ⟨rfl, rfl⟩)
      refine wp_region_below rfl (by kernel_rfl) (by kernel_rfl) ?_
      repeat (first
        | (refine wpQuietIn_go (v := ?_) (a' := ?_) rfl (fun _ => trivial) (fun w' hC => qval ?_) rfl ?_ ?_; rotate_left; rotate_left; (have kc := bcell hC; go_simp; with_reducible rfl); (simp only [Act.put, List.setIfInBounds_toArray, List.set_cons_zero, List.set_cons_succ, i64_w, i32_w]; rfl))
        | (refine wpQuietIn_go (v := .string X) (a' := ?_) rfl (fun _ => trivial) (fun w' hC => bqcall 40 #[.slice A n1 c] ?_ hC (k1 w' hC)) rfl ?_ ?_; rotate_left; go_simp; (simp only [Act.put, List.setIfInBounds_toArray, List.set_cons_zero, List.set_cons_succ, i64_w, i32_w]; rfl))
        | (refine wpQuietIn_go (v := .string Y) (a' := ?_) rfl (fun _ => trivial) (fun w' hC => bqcall 40 #[.slice A2 n2 c2v] ?_ hC (k2 w' hC)) rfl ?_ ?_; rotate_left; go_simp; (simp only [Act.put, List.setIfInBounds_toArray, List.set_cons_zero, List.set_cons_succ, i64_w, i32_w]; rfl))
        | (refine wpQuietIn_go (v := .string (nodeH X Y)) (a' := ?_) rfl (fun _ => trivial) (fun w' hC => bqcall 42 #[.string X, .string Y] ?_ hC (kN w')) rfl ?_ ?_; rotate_left; go_simp; (simp only [Act.put, List.setIfInBounds_toArray, List.set_cons_zero, List.set_cons_succ, i64_w, i32_w]; rfl)))
      refine wpQuietIn_nil ?_
      intro w4 hb4
      go_wp2
      go_ret
      exact ⟨rfl, hb4⟩
end Go.Proofs.YtoeibcdnhglobaaDoor.P

/- A row of leaves. -/
namespace Go.Proofs.YtoeibcdnhglobaaDoor.P
set_option linter.unusedVariables false
set_option linter.unusedSimpArgs false
open Go.RowKit Go.Shelf Go.Proofs.YtoeibcdnhglobaaDoorW.PrintWords Go.Proofs.YtoeibcdnhglobaaDoorW.PrintLast Go.Proofs.YtoeibcdnhglobaaDoorW.PrintMore
open Go.Proofs.YtoeibcdnhglobaaDoor.Pure

/-- A row of leaves lies in memory: slices of bytes, each read. -/
structure Leaves (w : World) (A : Option Addr) (ps : List Part) : Prop where
  at_ : ∀ j (h : j < ps.length), ∃ ad, A = some ad ∧ w.cell? (ad.add j) = some (.slice ps[j].A ps[j].d.length ps[j].c)
  rd : ∀ p ∈ ps, ReadsInt w .u8 p.A p.d.length p.d
  cap : ∀ p ∈ ps, p.d.length ≤ p.c
  ok : ∀ p ∈ ps, ∀ x ∈ p.d, 0 ≤ x ∧ x < 256
end Go.Proofs.YtoeibcdnhglobaaDoor.P
