/- Texts of the seat, joined: GRefHash, GFew, GCard, GCardH, LiftPeaksFew. -/
import Derived.Test.YtoeibcdnhglobaaDoorF2
import Derived.Test.YtoeibcdnhglobaaDoorGDigest
import Derived.Test.YtoeibcdnhglobaaDoorF1
import Derived.Test.YtoeibcdnhglobaaDoorCards
import Derived.Test.YtoeibcdnhglobaaDoorTie
import Derived.Test.YtoeibcdnhglobaaDoorGTz
import Derived.Test.YtoeibcdnhglobaaDoorWWords
import Derived.WalkKit
import Derived.ProofKit
import Derived.OpenShut
import Derived.ShutString
import Derived.Below
import Derived.Carry
import Derived.SizedLaws
import Derived.SliceStrings
import Derived.Deep.Strs
import Derived.Deep.DeepHandedRow
import Derived.Lib.LaidTab
import Derived.LaidSub
/- pantileref01.Sum256, pantileref09.LeafHash, NodeHash: the walks. -/
namespace Go.Proofs.YtoeibcdnhglobaaDoor.P
set_option linter.unusedVariables false
set_option linter.unusedSimpArgs false
open Go.RowKit Go.Shelf Go.Proofs.YtoeibcdnhglobaaDoorW.PrintWords Go.Proofs.YtoeibcdnhglobaaDoorW.PrintLast Go.Proofs.YtoeibcdnhglobaaDoorW.PrintMore
open Go.Proofs.YtoeibcdnhglobaaDoor.Pure

set_option maxRecDepth 100000 in
set_option maxHeartbeats 8000000 in
theorem Sum256R_calls (d : List Int) (A : Option Addr) (c : Nat) (w : World) (hr : ReadsInt w .u8 A d.length d) (hb : ∀ x ∈ d, 0 ≤ x ∧ x < 256) (hl : d.length < 549755813888) :
    Calls Tryd.prog 87 #[.slice A d.length c] w fun e w' => ∃ v', e = .returned v' ∧ OwnB w' w.heap.size v' (shaN d) ∧ Below w.heap.size w w' := by
  have hO := Of_calls w
  have HR := Lib.hid hr
  have HBY := Lib.hid hb
  have HL := Lib.hid hl
  clear hr hb hl
  go_enter Tryd.func87, Tryd.ntmps87
  go_wp2_with (first
    | (go_at_call 115; with_reducible refine hO.mono ?_; rintro e w1 ⟨p, g6, g7, c6, c7, rfl, hW1, hF1, hb1⟩; have kS := fun (W : World) (hW : Below w1.heap.size w1 W) => SumR_calls p g6 g7 c6 c7 d A c W (hW1.below hW) (hF1.below hW) ((HR.out.below hb1).below hW) HBY.out HL.out; have hBw := fun (o : Obj) => (Below.refl w1.heap.size w1).alloc (Nat.le_refl _) o; have HB1 := Lib.hid hb1; clear hW1 hF1 hb1 hO)
    | (go_at_call 116; with_reducible refine (kS _ (hBw _)).mono ?_; rintro e w2 ⟨v2, rfl, hown2, hb2⟩; have HO2 := Lib.hid hown2; have HB2 := Lib.hid hb2; clear hown2 hb2 kS))
  go_ret
  have h1 := HB1.out
  have h2 := hBw (.cells #[.int .i64 32, .int .i64 64, .slice (some ⟨p, 0, none⟩) 3 3, .slice (some ⟨p + 1, 0, none⟩) 3 3, .slice (some ⟨p + 1 + 1, 0, none⟩) 3 3, .slice (some ⟨p + 1 + 1 + 1, 0, none⟩) 3 3, .slice (some ⟨g6, 0, none⟩) 64 c6, .slice (some ⟨g7, 0, none⟩) 8 c7] 144)
  exact ⟨v2, rfl, own_weaken HO2.out (Nat.le_trans h1.size h2.size), (h1.trans (h2.mono h1.size)).trans (HB2.out.mono (Nat.le_trans h1.size h2.size))⟩
set_option maxRecDepth 100000 in
set_option maxHeartbeats 4000000 in
theorem LeafR_calls (A : Option Addr) (c : Nat) (l : List Int) (hl : l.length < 549755813800) (w : World) (hr : ReadsInt w .u8 A l.length l) (hb : ∀ x ∈ l, 0 ≤ x ∧ x < 256) :
    Calls Tryd.prog 38 #[.slice A l.length c] w fun e w' => e = .returned (.string (leafH l)) ∧ Below w.heap.size w w' := by
  have h1 : Below w.heap.size w (w.alloc (.cells #[.int .u8 0] 5)) := (Below.refl _ w).alloc (Nat.le_refl _) _
  have ho : OwnB (w.alloc (.cells #[.int .u8 0] 5)) w.heap.size (.slice (some ⟨w.heap.size, 0, none⟩) 1 1) [0] := own_lit w w.heap.size 5 .u8 [0] (Nat.le_refl _) (by decide)
  have hr1 := hr.below h1
  have hs1 := h1.size
  have hl1 : (([0] : List Int).length + l.length) * 1 ≤ 140737488355328 := by simp only [List.length_cons, List.length_nil]; omega
  obtain ⟨L, hL⟩ : ∃ L, L = [0] ++ l := ⟨_, rfl⟩
  obtain ⟨D, hD⟩ : ∃ D, D = shaN L := ⟨_, rfl⟩
  have kS := fun (W : World) (A : Option Addr) (c : Nat) (h : ReadsInt W .u8 A L.length L) => Sum256R_calls L A c W h (by
    intro x hx
    rw [hL] at hx
    rcases List.mem_append.1 hx with hx | hx
    · have : x = 0 := by simpa using hx
      omega
    · exact hb x hx) (by rw [hL]; simp; omega)
  rw [← hD] at kS
  have HL := Lib.hid hL
  have HD := Lib.hid hD
  clear hL hD
  have hstr := fun (W : World) (A : Option Addr) (n c : Nat) (xs : List Int) (h : ReadsInt W .u8 A n xs) => string_of_reads (P := Tryd.prog) (src := 47) (dst := 9) (c := c) Tryd.underlying47 Tryd.underlying5 Tryd.underlying9 h
  have HSTR := Lib.hid hstr
  clear hr hb hstr
  go_enter Tryd.func38, Tryd.ntmps38
  go_wp2_with (first
    | (at_builtin; go_loud (refine print_append_row (w0 := w) w.heap.size rfl _ _ 47 5 .u8 1 rfl Tryd.underlying47 inf5 (by decide) (.slice (some ⟨w.heap.size, 0, none⟩) 1 1) [0] l A l.length c rfl rfl ho hr1 h1 hs1 hl1 ?_; intro v1 w1 hown1 hB1 _ _; rw [← HL.out] at hown1; obtain ⟨A1, c1, rfl, _⟩ := own_form hown1; have hrd := own_reads' hown1; have HB1 := Lib.hid hB1; clear hown1 hB1))
    | (go_at_call 87; go_loud (refine (kS _ _ _ hrd).mono ?_; rintro e w5 ⟨v5, rfl, ho5, hb5⟩; obtain ⟨A5, c5, rfl, _⟩ := own_form ho5; have hcv := HSTR.out w5 A5 _ c5 _ (own_reads' ho5); have HB5 := Lib.hid hb5; clear ho5 hb5)))
  go_ret
  exact ⟨by rw [HD.out, HL.out]; rfl, HB1.out.trans (HB5.out.mono HB1.out.size)⟩
set_option maxRecDepth 100000 in
set_option maxHeartbeats 4000000 in
theorem NodeR_calls (a b : ByteArray) (hs : a.size + b.size < 549755813800) (w : World) :
    Calls Tryd.prog 42 #[.string a, .string b] w fun e w' => e = .returned (.string (nodeH a b)) ∧ Below w.heap.size w w' := by
  have h1 : Below w.heap.size w (w.alloc (.cells #[.int .u8 1] 5)) := (Below.refl _ w).alloc (Nat.le_refl _) _
  have ho : OwnB (w.alloc (.cells #[.int .u8 1] 5)) w.heap.size (.slice (some ⟨w.heap.size, 0, none⟩) 1 1) [1] := own_lit w w.heap.size 5 .u8 [1] (Nat.le_refl _) (by decide)
  have hs1 := h1.size
  have la := bytesOf_length a
  have lb := bytesOf_length b
  obtain ⟨L1, hL1⟩ : ∃ L, L = [1] ++ bytesOf a := ⟨_, rfl⟩
  obtain ⟨L, hL⟩ : ∃ L, L = L1 ++ bytesOf b := ⟨_, rfl⟩
  obtain ⟨D, hD⟩ : ∃ D, D = shaN L := ⟨_, rfl⟩
  have hl1 : ([1] : List Int).length + a.size ≤ 140737488355328 := by simp only [List.length_cons, List.length_nil]; omega
  have hl2 : L1.length + b.size ≤ 140737488355328 := by rw [hL1]; simp [la]; omega
  have kS := fun (W : World) (A : Option Addr) (c : Nat) (h : ReadsInt W .u8 A L.length L) => Sum256R_calls L A c W h (by
    intro x hx
    rw [hL, hL1] at hx
    rcases List.mem_append.1 hx with hx | hx
    · rcases List.mem_append.1 hx with hx | hx
      · have : x = 1 := by simpa using hx
        omega
      · exact bytesOf_ok a x hx
    · exact bytesOf_ok b x hx) (by rw [hL, hL1]; simp [la, lb]; omega)
  rw [← hD] at kS
  have HL1 := Lib.hid hL1
  have HL := Lib.hid hL
  have HD := Lib.hid hD
  have hstr := fun (W : World) (A : Option Addr) (n c : Nat) (xs : List Int) (h : ReadsInt W .u8 A n xs) => string_of_reads (P := Tryd.prog) (src := 47) (dst := 9) (c := c) Tryd.underlying47 Tryd.underlying5 Tryd.underlying9 h
  have HSTR := Lib.hid hstr
  clear hL1 hL hD hstr la lb
  go_enter Tryd.func42, Tryd.ntmps42
  go_wp2_with (first
    | (at_builtin; go_loud (refine print_append_str (w0 := w) w.heap.size rfl _ _ 47 9 5 rfl Tryd.underlying47 Tryd.underlying9 inf5 (.slice (some ⟨w.heap.size, 0, none⟩) 1 1) [1] a rfl rfl ho h1 hs1 hl1 ?_; intro v1 w1 hown1 hB1 _; rw [← HL1.out] at hown1; obtain ⟨A1, c1, rfl, _⟩ := own_form hown1; have hs2 := Nat.le_trans hs1 (Nat.le_refl _); have hsw : w.heap.size ≤ w1.heap.size := hB1.size; clear ho h1 hs1 hl1))
    | (at_builtin; go_loud (refine print_append_str (w0 := w) w.heap.size rfl _ _ 47 9 5 rfl Tryd.underlying47 Tryd.underlying9 inf5 (.slice A1 L1.length c1) L1 b rfl rfl hown1 hB1 hsw hl2 ?_; intro v2 w2 hown2 hB2 _; rw [← HL.out] at hown2; obtain ⟨A2, c2, rfl, _⟩ := own_form hown2; have hrd := own_reads' hown2; have HB2 := Lib.hid hB2; clear hown2 hB2 hown1 hB1))
    | (go_at_call 87; go_loud (refine (kS _ _ _ hrd).mono ?_; rintro e w5 ⟨v5, rfl, ho5, hb5⟩; obtain ⟨A5, c5, rfl, _⟩ := own_form ho5; have hcv := HSTR.out w5 A5 _ c5 _ (own_reads' ho5); have HB5 := Lib.hid hb5; clear ho5 hb5)))
  go_ret
  exact ⟨by rw [HD.out, HL.out, HL1.out]; rfl, HB2.out.trans (HB5.out.mono HB2.out.size)⟩
end Go.Proofs.YtoeibcdnhglobaaDoor.P

/- pantilelaw09.PeaksFew: the walk. -/
namespace Go.Proofs.YtoeibcdnhglobaaDoor.P
set_option linter.unusedVariables false
set_option linter.unusedSimpArgs false
open Go.RowKit Go.Shelf Go.Proofs.YtoeibcdnhglobaaDoorW.PrintWords Go.Proofs.YtoeibcdnhglobaaDoorW.PrintLast Go.Proofs.YtoeibcdnhglobaaDoorW.PrintMore
open Go.Proofs.YtoeibcdnhglobaaDoor.Pure

theorem tree1 {α : Type} (J : α → α → α) (z a : α) : Tree J z [a] = a := rfl
theorem tree2 {α : Type} (J : α → α → α) (z a b : α) : Tree J z [a, b] = J a b := by
  rw [Tree_two J z [a, b] (by simp)]; rfl
theorem tree3 {α : Type} (J : α → α → α) (z a b c : α) : Tree J z [a, b, c] = J (J a b) c := by
  rw [Tree_two J z [a, b, c] (by simp)]
  have h : half ([a, b, c] : List α).length = 2 := show half 3 = 2 from by decide
  rw [h]
  show J (Tree J z [a, b]) (Tree J z [c]) = _
  rw [tree2, tree1]
theorem root1 (a : ByteArray) : rootH [a] = a := by rw [rootH, if_neg (by simp), tree1]
theorem root2 (a b : ByteArray) : rootH [a, b] = nodeH a b := by rw [rootH, if_neg (by simp), tree2]; rfl
theorem root3 (a b c : ByteArray) : rootH [a, b, c] = nodeH (nodeH a b) c := by rw [rootH, if_neg (by simp), tree3]; rfl
theorem strs_lit (W : World) (xs : List ByteArray) (h : xs.length ≤ 9223372036854775807) : ReadsOf Value.string ByteArray.empty (W.alloc (.cells (xs.map Value.string).toArray 9)) (some ⟨W.heap.size, 0, none⟩) xs.length xs := by
  refine ⟨rfl, h, fun _ => ⟨_, rfl, fun j hj => ?_⟩⟩
  rw [add_plain]
  have hn := heap_alloc_new W (.cells (xs.map Value.string).toArray 9)
  unfold World.cell?
  simp only []
  rw [hn]
  simp [List.getD_eq_getElem?_getD, hj]
/-- What a leaf's bytes, cut at 60, are worth. -/
theorem leaf_case (A : Option Addr) (c : Nat) (l : List Int) (w : World) (hr : ReadsInt w .u8 A l.length l) (hc : l.length ≤ c) (hb : ∀ x ∈ l, 0 ≤ x ∧ x < 256) (hG : GlobH w) :
    ∃ (m : Nat) (x : ByteArray), x.size = 32 ∧
      (∀ W, Below w.heap.size w W → Calls Tryd.prog 37 #[.slice A m c] W fun e w' => e = .returned (.string x) ∧ Below w.heap.size w w') ∧
      (∀ W, Below w.heap.size w W → Calls Tryd.prog 38 #[.slice A m c] W fun e w' => e = .returned (.string x) ∧ Below w.heap.size w w') ∧
      ((decide ((60 : Int) < (l.length : Int)) = true ∧ m = 60 ∧ (60 : Int) ≤ (c : Int)) ∨ (decide ((60 : Int) < (l.length : Int)) = false ∧ m = l.length)) := by
  have key : ∀ (l2 : List Int), l2.length ≤ 60 → ReadsInt w .u8 A l2.length l2 → (∀ x ∈ l2, 0 ≤ x ∧ x < 256) →
      (∀ W, Below w.heap.size w W → Calls Tryd.prog 37 #[.slice A l2.length c] W fun e w' => e = .returned (.string (leafH l2)) ∧ Below w.heap.size w w') ∧
      (∀ W, Below w.heap.size w W → Calls Tryd.prog 38 #[.slice A l2.length c] W fun e w' => e = .returned (.string (leafH l2)) ∧ Below w.heap.size w w') := fun l2 hl hr2 hb2 =>
    ⟨fun W hW => (LeafHash_calls A c l2 (by omega) W (hr2.below hW) hb2 (hG.below hW)).mono fun e w' ⟨he, hw⟩ => ⟨he, hW.trans (hw.mono hW.size)⟩,
     fun W hW => (LeafR_calls A c l2 (by omega) W (hr2.below hW) hb2).mono fun e w' ⟨he, hw⟩ => ⟨he, hW.trans (hw.mono hW.size)⟩⟩
  by_cases h : 60 < l.length
  · have hl : (l.take 60).length = 60 := by rw [List.length_take]; omega
    have k := key (l.take 60) (by omega) (by rw [hl]; exact hr.take_ 60 (by omega)) (fun x hx => hb x (List.mem_of_mem_take hx))
    rw [hl] at k
    exact ⟨60, leafH (l.take 60), leafH_size _, k.1, k.2, .inl ⟨decide_eq_true (by omega), rfl, by omega⟩⟩
  · have k := key l (by omega) hr hb
    exact ⟨l.length, leafH l, leafH_size _, k.1, k.2, .inr ⟨decide_eq_false (by omega), rfl⟩⟩
set_option maxRecDepth 100000 in
set_option maxHeartbeats 8000000 in
theorem PeaksFew_calls (A0 A1 A2 : Option Addr) (c0 c1 c2 : Nat) (l0 l1 l2 : List Int) (w : World)
    (hr0 : ReadsInt w .u8 A0 l0.length l0) (hc0 : l0.length ≤ c0) (hb0 : ∀ x ∈ l0, 0 ≤ x ∧ x < 256)
    (hr1 : ReadsInt w .u8 A1 l1.length l1) (hc1 : l1.length ≤ c1) (hb1 : ∀ x ∈ l1, 0 ≤ x ∧ x < 256)
    (hr2 : ReadsInt w .u8 A2 l2.length l2) (hc2 : l2.length ≤ c2) (hb2 : ∀ x ∈ l2, 0 ≤ x ∧ x < 256) (hT : TzTab w) (hG : GlobH w) :
    Calls Tryd.prog 7 #[.slice A0 l0.length c0, .slice A1 l1.length c1, .slice A2 l2.length c2] w fun e w' => e = .returned (.bool true) ∧ Below w.heap.size w w' := by
  obtain ⟨m0, x0, hx0, kL0, kR0, hcase0⟩ := leaf_case A0 c0 l0 w hr0 hc0 hb0 hG
  obtain ⟨m1, x1, hx1, kL1, _, hcase1⟩ := leaf_case A1 c1 l1 w hr1 hc1 hb1 hG
  obtain ⟨m2, x2, hx2, kL2, _, hcase2⟩ := leaf_case A2 c2 l2 w hr2 hc2 hb2 hG
  have kR : ∀ (xs : List ByteArray), xs.length ≤ 3 → (∀ s ∈ xs, s.size ≤ 32) → ∀ W, Below w.heap.size w W → Calls Tryd.prog 39 #[.slice (some ⟨W.heap.size, 0, none⟩) xs.length xs.length] (W.alloc (.cells (xs.map Value.string).toArray 9)) fun e w' => e = .returned (.string (rootH xs)) ∧ Below w.heap.size w w' := fun xs hl hs W hW => by
    have hB := hW.alloc hW.size (.cells (xs.map Value.string).toArray 9)
    exact (Root_calls _ xs.length xs _ (strs_lit W xs (by omega)) hs (by omega) (hT.below hB hT.lt) (hG.below hB)).mono fun e w' ⟨he, hw⟩ => ⟨he, hB.trans (hw.mono hB.size)⟩
  have kR1 := kR [x0] (by simp) (by simp [hx0])
  have kR2 := kR [x0, x1] (by simp) (by simp [hx0, hx1])
  have kR3 := kR [x0, x1, x2] (by simp) (by simp [hx0, hx1, hx2])
  rw [root1] at kR1
  rw [root2] at kR2
  rw [root3] at kR3
  have kN : ∀ (a b : ByteArray), a.size + b.size < 1000 → ∀ W, Below w.heap.size w W → Calls Tryd.prog 42 #[.string a, .string b] W fun e w' => e = .returned (.string (nodeH a b)) ∧ Below w.heap.size w w' := fun a b hs W hW =>
    (NodeR_calls a b (by omega) W).mono fun e w' ⟨he, hw⟩ => ⟨he, hW.trans (hw.mono hW.size)⟩
  have kN1 := kN x0 x1 (by omega)
  have kN2 := kN (nodeH x0 x1) x2 (by rw [nodeH_size]; omega)
  have kV : ∀ W, Below w.heap.size w W → Calls Tryd.prog 27 #[] W fun e w' => e = .returned (.bool true) ∧ Below w.heap.size w w' := fun W hW =>
    (lives09_calls W (hT.below hW hT.lt)).mono fun e w' ⟨he, hw⟩ => ⟨he, hW.trans (hw.mono hW.size)⟩
  have hB := Below.refl w.heap.size w
  generalize nodeH (nodeH x0 x1) x2 = y2 at *
  generalize nodeH x0 x1 = y1 at *
  simp only [List.map_cons, List.map_nil, List.length_cons, List.length_nil] at kR1 kR2 kR3
  have hz0 : (x0.size : Int) = 32 := by omega
  clear kR kN hr0 hr1 hr2 hb0 hb1 hb2 hT hG hx0 hx1 hx2 hc0 hc1 hc2
  rcases hcase0 with ⟨h0, rfl, g0⟩ | ⟨h0, rfl⟩ <;> rcases hcase1 with ⟨h1, rfl, g1⟩ | ⟨h1, rfl⟩ <;> rcases hcase2 with ⟨h2, rfl, g2⟩ | ⟨h2, rfl⟩
  all_goals
    go_enter Tryd.func7, Tryd.ntmps7
    go_wp2_with (first
      | (go_at_call 37; first | (with_reducible refine (kL0 _ hB).mono ?_; rintro e w9 ⟨rfl, hB9⟩; clear hB; have hB := hB9; clear hB9) | (with_reducible refine (kL1 _ hB).mono ?_; rintro e w9 ⟨rfl, hB9⟩; clear hB; have hB := hB9; clear hB9) | (with_reducible refine (kL2 _ hB).mono ?_; rintro e w9 ⟨rfl, hB9⟩; clear hB; have hB := hB9; clear hB9))
      | (go_at_call 39; first | (with_reducible refine (kR1 _ hB).mono ?_; rintro e w9 ⟨rfl, hB9⟩; clear hB; have hB := hB9; clear hB9) | (with_reducible refine (kR2 _ hB).mono ?_; rintro e w9 ⟨rfl, hB9⟩; clear hB; have hB := hB9; clear hB9) | (with_reducible refine (kR3 _ hB).mono ?_; rintro e w9 ⟨rfl, hB9⟩; clear hB; have hB := hB9; clear hB9))
      | (go_at_call 42; first | (with_reducible refine (kN1 _ hB).mono ?_; rintro e w9 ⟨rfl, hB9⟩; clear hB; have hB := hB9; clear hB9) | (with_reducible refine (kN2 _ hB).mono ?_; rintro e w9 ⟨rfl, hB9⟩; clear hB; have hB := hB9; clear hB9))
      | (go_at_call 38; (with_reducible refine (kR0 _ hB).mono ?_; rintro e w9 ⟨rfl, hB9⟩; clear hB; have hB := hB9; clear hB9))
      | (go_at_call 27; (with_reducible refine (kV _ hB).mono ?_; rintro e w9 ⟨rfl, hB9⟩; clear hB; have hB := hB9; clear hB9)))
    go_ret
    exact ⟨rfl, hB⟩
end Go.Proofs.YtoeibcdnhglobaaDoor.P

/- What all the door's cards share: the tables, the witness's world, the reading of an argument of texts. -/
namespace Go.Proofs.YtoeibcdnhglobaaDoor.P
set_option linter.unusedVariables false
set_option linter.unusedSimpArgs false
open Go.ChangeShapes Go.WideShapes Go.ChangeAt Go.RowKit
open Go.Proofs.YtoeibcdnhglobaaDoorW.PrintWords
theorem own_ : ownKnob Tryd.prog.godebug = none := by kernel_rfl
theorem laidOut_ : laidOutB Tryd.prog = true := by kernel_rfl
def tab_0 : Array Value := #[.int .u8 0, .int .u8 1, .int .u8 28, .int .u8 2, .int .u8 29, .int .u8 14, .int .u8 24, .int .u8 3, .int .u8 30, .int .u8 22, .int .u8 20, .int .u8 15, .int .u8 25, .int .u8 17, .int .u8 4, .int .u8 8, .int .u8 31, .int .u8 27, .int .u8 13, .int .u8 23, .int .u8 21, .int .u8 19, .int .u8 16, .int .u8 7, .int .u8 26, .int .u8 12, .int .u8 18, .int .u8 6, .int .u8 11, .int .u8 5, .int .u8 10, .int .u8 9]
def tab_1 : Array Value := #[.int .u8 0, .int .u8 1, .int .u8 56, .int .u8 2, .int .u8 57, .int .u8 49, .int .u8 28, .int .u8 3, .int .u8 61, .int .u8 58, .int .u8 42, .int .u8 50, .int .u8 38, .int .u8 29, .int .u8 17, .int .u8 4, .int .u8 62, .int .u8 47, .int .u8 59, .int .u8 36, .int .u8 45, .int .u8 43, .int .u8 51, .int .u8 22, .int .u8 53, .int .u8 39, .int .u8 33, .int .u8 30, .int .u8 24, .int .u8 18, .int .u8 12, .int .u8 5, .int .u8 63, .int .u8 55, .int .u8 48, .int .u8 27, .int .u8 60, .int .u8 41, .int .u8 37, .int .u8 16, .int .u8 46, .int .u8 35, .int .u8 44, .int .u8 21, .int .u8 52, .int .u8 32, .int .u8 23, .int .u8 11, .int .u8 54, .int .u8 26, .int .u8 40, .int .u8 15, .int .u8 34, .int .u8 20, .int .u8 31, .int .u8 10, .int .u8 25, .int .u8 14, .int .u8 19, .int .u8 9, .int .u8 13, .int .u8 8, .int .u8 7, .int .u8 6]
def tab_2 : Array Value := #[.int .u64 7640891576956012808, .int .u64 13503953896175478587, .int .u64 4354685564936845355, .int .u64 11912009170470909681, .int .u64 5840696475078001361, .int .u64 11170449401992604703, .int .u64 2270897969802886507, .int .u64 6620516959819538809]
def tab_3 : Array Value := #[.int .u64 4794697086780616226, .int .u64 8158064640168781261, .int .u64 13096744586834688815, .int .u64 16840607885511220156, .int .u64 4131703408338449720, .int .u64 6480981068601479193, .int .u64 10538285296894168987, .int .u64 12329834152419229976, .int .u64 15566598209576043074, .int .u64 1334009975649890238, .int .u64 2608012711638119052, .int .u64 6128411473006802146, .int .u64 8268148722764581231, .int .u64 9286055187155687089, .int .u64 11230858885718282805, .int .u64 13951009754708518548, .int .u64 16472876342353939154, .int .u64 17275323862435702243, .int .u64 1135362057144423861, .int .u64 2597628984639134821, .int .u64 3308224258029322869, .int .u64 5365058923640841347, .int .u64 6679025012923562964, .int .u64 8573033837759648693, .int .u64 10970295158949994411, .int .u64 12119686244451234320, .int .u64 12683024718118986047, .int .u64 13788192230050041572, .int .u64 14330467153632333762, .int .u64 15395433587784984357, .int .u64 489312712824947311, .int .u64 1452737877330783856, .int .u64 2861767655752347644, .int .u64 3322285676063803686, .int .u64 5560940570517711597, .int .u64 5996557281743188959, .int .u64 7280758554555802590, .int .u64 8532644243296465576, .int .u64 9350256976987008742, .int .u64 10552545826968843579, .int .u64 11727347734174303076, .int .u64 12113106623233404929, .int .u64 14000437183269869457, .int .u64 14369950271660146224, .int .u64 15101387698204529176, .int .u64 15463397548674623760, .int .u64 17586052441742319658, .int .u64 1182934255886127544, .int .u64 1847814050463011016, .int .u64 2177327727835720531, .int .u64 2830643537854262169, .int .u64 3796741975233480872, .int .u64 4115178125766777443, .int .u64 5681478168544905931, .int .u64 6601373596472566643, .int .u64 7507060721942968483, .int .u64 8399075790359081724, .int .u64 8693463985226723168, .int .u64 9568029438360202098, .int .u64 10144078919501101548, .int .u64 10430055236837252648, .int .u64 11840083180663258601, .int .u64 13761210420658862357, .int .u64 14299343276471374635, .int .u64 14566680578165727644, .int .u64 15097957966210449927, .int .u64 16922976911328602910, .int .u64 17689382322260857208, .int .u64 500013540394364858, .int .u64 748580250866718886, .int .u64 1242879168328830382, .int .u64 1977374033974150939, .int .u64 2944078676154940804, .int .u64 3659926193048069267, .int .u64 4368137639120453308, .int .u64 4836135668995329356, .int .u64 5532061633213252278, .int .u64 6448918945643986474, .int .u64 6902733635092675308, .int .u64 7801388544844847127]
def tab_5 : Array Value := #[.int .u64 1, .int .u64 10, .int .u64 100, .int .u64 1000, .int .u64 10000, .int .u64 100000, .int .u64 1000000, .int .u64 10000000, .int .u64 100000000, .int .u64 1000000000, .int .u64 10000000000, .int .u64 100000000000, .int .u64 1000000000000, .int .u64 10000000000000, .int .u64 100000000000000, .int .u64 1000000000000000, .int .u64 10000000000000000, .int .u64 100000000000000000, .int .u64 1000000000000000000, .int .u64 10000000000000000000]
/-- A world for the witnesses: the settled one, the tables holding what their initialisers lay. -/
noncomputable def laidWorld (os : Os) : World :=
  { World.holding Tryd.prog os ⟨#[], #[], []⟩ with heap := ((((((World.holding Tryd.prog os ⟨#[], #[], []⟩).heap.modify 0 fun | .cells _ t frozen => .cells tab_0 t frozen | o => o).modify 1 fun | .cells _ t frozen => .cells tab_1 t frozen | o => o).modify 2 fun | .cells _ t frozen => .cells tab_2 t frozen | o => o).modify 3 fun | .cells _ t frozen => .cells tab_3 t frozen | o => o).modify 5 fun | .cells _ t frozen => .cells tab_5 t frozen | o => o) }
theorem gT1 : Tryd.prog.globalNamed "math/bits.deBruijn64tab" = some 1 := by kernel_rfl
theorem gT1Type : (Tryd.prog.globals[1]?).map (·.type) = some 160 := by kernel_rfl
theorem tz_of_laid {W : World} {l : List (String × DataW Unit)} (h : laidMetH Tryd.prog l W) (hl : l.filter (fun x => x.1 == "math/bits.deBruijn64tab") = [("math/bits.deBruijn64tab", Rows.laid_math_bits_deBruijn64tab)]) : TzTab W := by
  have h1 := laidMetH.filter (fun x => x.1 == "math/bits.deBruijn64tab") h
  rw [hl] at h1
  have h2 : Lib.TabIs Tryd.prog W "math/bits.deBruijn64tab" .u8 (Lib.deBruijn64tab.map fun n : Nat => (n : Int)) :=
    Lib.tabIs_of_head (rest := []) gT1 gT1Type Tryd.underlying160 Tryd.underlying5 (by kernel_rfl) (by kernel_rfl) h1
  intro j hj
  have := h2.cell gT1 j (by simpa using hj)
  rw [this]
  simp [List.getD_eq_getElem?_getD, hj]

/-- A row's texts, each no longer than the row's weights allow. -/
def IsStrs (w : World) (a : Option Addr) (len cap : Nat) (ss : List ByteArray) : Prop :=
  (a = none ∧ len = 0 ∧ cap = 0 ∧ ss = []) ∨
  ∃ x, a = some x ∧ len ≤ cap ∧ cap ≤ maxLen ∧ ss.length = cap ∧ (∀ i, i < ss.length → w.cell? (x.add i) = some (.string (ss.getD i ByteArray.empty))) ∧ ∀ s ∈ ss, s.size ≤ 140737488351232
theorem weightsAll_mem {H : Type} {P : Program} {e : TypeId} {d : DataW H} {n : Nat} : ∀ {l : List (DataW H)}, d ∈ l → n ∈ d.weights P e → n ∈ DataW.weightsAll P e l
  | x :: l, hd, hn => by
    simp only [DataW.weightsAll, List.mem_append]
    rcases List.mem_cons.1 hd with rfl | hd
    · exact .inl hn
    · exact .inr (weightsAll_mem hd hn)
theorem open_isStrs {H : Type} {enc : TypeId × Value → H} {W : World} {base : Nat} {held : Bool} {a : Option Addr} {len cap : Nat} {d : DataW H} {ps : List MemPlace} {ts : List TypeId} {ds : List (DataW H)} {j : Nat}
    (hsz : (DataW.weightsEach Tryd.prog ts ds).all (· ≤ reachBytes) = true) (ht : ts[j]? = some 22) (hd : ds[j]? = some d)
    (h : DataW.Trod enc Tryd.prog W base (fun _ => true) held 22 (.slice a len cap) d ps) : ∃ ss, IsStrs W a len cap ss ∧ len * 16 ≤ 140737488351232 := by
  obtain ⟨fuel, hf⟩ := h
  rcases open_strings Tryd.underlying22 Tryd.underlying9 (by kernel_rfl) hf with ⟨hcs, _⟩ | ⟨x, l, c, ss, hcs, _, hl, hm, hz, hx, hcell, _⟩
  · simp [Value.cells] at hcs
    obtain ⟨rfl, rfl, rfl⟩ := hcs
    exact ⟨[], .inl ⟨rfl, rfl, rfl, rfl⟩, by omega⟩
  · simp [Value.cells] at hcs
    obtain ⟨rfl, rfl, rfl⟩ := hcs
    obtain ⟨hx, _⟩ := Prod.mk.inj hx
    subst hx
    have hz' : ss.length = cap := by simpa using hz
    have z := sized_slice hsz ht hd Tryd.underlying22
    have hb : Tryd.prog.bytesOf 9 = 16 := by kernel_rfl
    rw [hb] at z
    have hlen : (strs (H := H) (ss.take len)).length + (strs (H := H) (ss.drop len)).length = ss.length := by simp [strs]; omega
    rw [hlen] at z
    refine ⟨ss, .inr ⟨_, rfl, hl, hm, hz', hcell, fun s hs => ?_⟩, Nat.le_trans (Nat.mul_le_mul_right _ (by omega)) z⟩
    have hmem : s.data.toList.length ∈ DataW.weights Tryd.prog 22 (.slice (strs (H := H) (ss.take len)) (strs (ss.drop len))) := by
      simp only [DataW.weights, Tryd.underlying22]
      refine List.mem_cons_of_mem _ ?_
      rw [List.mem_append]
      have hs' : s ∈ ss.take len ++ ss.drop len := by rw [List.take_append_drop]; exact hs
      rcases List.mem_append.1 hs' with h1 | h1
      · exact .inl (weightsAll_mem (d := .lit (.string s.data.toList)) (List.mem_map.2 ⟨s, h1, rfl⟩) (by simp [DataW.weights]))
      · exact .inr (weightsAll_mem (d := .lit (.string s.data.toList)) (List.mem_map.2 ⟨s, h1, rfl⟩) (by simp [DataW.weights]))
    have := List.all_eq_true.1 hsz _ (DataW.weights_mem_each ht hd _ hmem)
    have h2 : s.data.toList.length ≤ reachBytes := by simpa using this
    rw [Array.length_toList] at h2
    exact h2
theorem isStrs_reads {w : World} {a : Option Addr} {len cap : Nat} {ss : List ByteArray} (h : IsStrs w a len cap ss) (hl : len * 16 ≤ 140737488351232) :
    ∃ l : List ByteArray, l.length = len ∧ ReadsOf Value.string ByteArray.empty w a l.length l ∧ l.length ≤ cap ∧ ∀ s ∈ l, s.size ≤ 140737488355328 := by
  rcases h with ⟨rfl, rfl, rfl, rfl⟩ | ⟨x, rfl, h1, h2, h3, h4, h5⟩
  · exact ⟨[], rfl, ⟨rfl, by simp, fun h => absurd h (Nat.lt_irrefl 0)⟩, Nat.le_refl _, fun s hs => by cases hs⟩
  · have e : (ss.take len).length = len := by rw [List.length_take]; omega
    refine ⟨ss.take len, e, ⟨rfl, by omega, fun _ => ⟨x, rfl, fun j hj => ?_⟩⟩, by omega, fun s hs => Nat.le_trans (h5 s (List.mem_of_mem_take hs)) (by decide)⟩
    rw [e] at hj
    rw [h4 j (by omega)]
    simp [List.getD_eq_getElem?_getD, hj]
end Go.Proofs.YtoeibcdnhglobaaDoor.P

/- What the cards of hashes share: the digest's tables, and the reading of an argument of bytes. -/
namespace Go.Proofs.YtoeibcdnhglobaaDoor.P
set_option linter.unusedVariables false
set_option linter.unusedSimpArgs false
open Go.ChangeShapes Go.WideShapes Go.ChangeAt Go.RowKit
open Go.Proofs.YtoeibcdnhglobaaDoorW.PrintWords
open Go.Proofs.YtoeibcdnhglobaaDoor.Pure
theorem gK : Tryd.prog.globalNamed "pantile/digest.k" = some 3 := by kernel_rfl
theorem gKType : (Tryd.prog.globals[3]?).map (·.type) = some 178 := by kernel_rfl
theorem gB : Tryd.prog.globalNamed "pantile/digest.begins" = some 2 := by kernel_rfl
theorem gBType : (Tryd.prog.globals[2]?).map (·.type) = some 164 := by kernel_rfl
theorem k_of_laid {W : World} {l : List (String × DataW Unit)} (h : laidMetH Tryd.prog l W) (hl : l.filter (fun x => x.1 == "pantile/digest.k") = [("pantile/digest.k", Rows.laid_pantile_digest_k)]) : KTab W := by
  have h1 := laidMetH.filter (fun x => x.1 == "pantile/digest.k") h
  rw [hl] at h1
  have h2 : Lib.TabIs Tryd.prog W "pantile/digest.k" .u64 (K64.map fun n : Nat => (n : Int)) :=
    Lib.tabIs_of_head (rest := []) gK gKType Tryd.underlying178 Tryd.underlying135 (by kernel_rfl) (by kernel_rfl) h1
  intro j hj
  have := h2.cell gK j (by show j < 80; omega)
  rw [this]
  have h80 : j < K64.length := by show j < 80; omega
  simp [List.getD_eq_getElem?_getD, h80]
theorem b_of_laid {W : World} {l : List (String × DataW Unit)} (h : laidMetH Tryd.prog l W) (hl : l.filter (fun x => x.1 == "pantile/digest.begins") = [("pantile/digest.begins", Rows.laid_pantile_digest_begins)]) : BTab W := by
  have h1 := laidMetH.filter (fun x => x.1 == "pantile/digest.begins") h
  rw [hl] at h1
  have h2 : Lib.TabIs Tryd.prog W "pantile/digest.begins" .u64 (H64.map fun n : Nat => (n : Int)) :=
    Lib.tabIs_of_head (rest := []) gB gBType Tryd.underlying164 Tryd.underlying135 (by kernel_rfl) (by kernel_rfl) h1
  intro j hj
  have := h2.cell gB j (by show j < 8; omega)
  rw [this]
  have h8 : j < H64.length := by show j < 8; omega
  simp [List.getD_eq_getElem?_getD, h8]
theorem open_bytes {H : Type} {enc : TypeId × Value → H} {W : World} {held : Bool} {a : Option Addr} {len cap : Nat} {d : DataW H} {ps : List MemPlace}
    (h : DataW.Trod enc Tryd.prog W 0 (fun _ => true) held 47 (.slice a len cap) d ps) :
    ∃ l : List Int, l.length = len ∧ ReadsInt W .u8 a l.length l ∧ l.length ≤ cap ∧ ∀ x ∈ l, 0 ≤ x ∧ x < 256 := by
  obtain ⟨fuel, hf⟩ := h
  rcases open_ints Tryd.underlying47 Tryd.underlying5 (by kernel_rfl) hf with ⟨hcs, _⟩ | ⟨x, l, c, zs, hcs, _, hl, hm, hz, _, hcell, hwz⟩
  · simp [Value.cells] at hcs
    obtain ⟨rfl, rfl, rfl⟩ := hcs
    exact ⟨[], rfl, ⟨rfl, by simp, fun h => absurd h (Nat.lt_irrefl 0)⟩, Nat.le_refl _, fun s hs => by cases hs⟩
  · simp [Value.cells] at hcs
    obtain ⟨rfl, rfl, rfl⟩ := hcs
    have hz' : zs.length = cap := by simpa using hz
    have e : (zs.take len).length = len := by rw [List.length_take]; omega
    have hmm : maxLen = 9223372036854775807 := rfl
    refine ⟨zs.take len, e, ⟨rfl, by omega, fun _ => ⟨x, rfl, fun j hj => ?_⟩⟩, by omega, fun s hs => ?_⟩
    · rw [e] at hj
      rw [hcell j (by omega)]
      simp [List.getD_eq_getElem?_getD, hj]
    · have hw := hwz s (List.mem_of_mem_take hs)
      have hb := bounds_u8 hw
      omega
end Go.Proofs.YtoeibcdnhglobaaDoor.P

/- The card of PeaksFew: what its witness and its contract give. -/
namespace Go.Proofs.YtoeibcdnhglobaaDoor.peaksFew
set_option linter.unusedVariables false
set_option linter.unusedSimpArgs false
open Go.ChangeShapes Go.WideShapes Go.ChangeAt Go.RowKit
open P

set_option maxRecDepth 100000 in
theorem contract (H : Type) (enc : TypeId × Value → H) (W : World) (base : Nat) (args : Array Value) (ds gs : List (DataW H)) (before : List MemPlace)
    (hval : ∀ (j : Nat) t v, Tryd.f7.params[j]? = some t → args[j]? = some v → Value.okWide Tryd.prog W .any base t v)
    (hW : DataW.Whole enc Tryd.prog Tryd.f7.params.toList Rows.peaksFewSpec.vars false W args.toList ds gs before)
    (hsz : (DataW.weightsEach Tryd.prog (Tryd.f7.params.toList ++ Rows.peaksFewSpec.plain.varTypes Tryd.prog) (ds ++ gs)).all (· ≤ reachBytes) = true)
    (hL : laidMetH Tryd.prog Rows.peaksFewRow.laid W) :
    Calls Tryd.prog 7 args W fun e W' => ∃ v, e = .returned v ∧ Rows.peaksFewSpec.post enc Tryd.prog Tryd.f7 false true false false W args v W' := by
  have hW' := hW
  obtain ⟨p, q, hA0, hV, rfl, hfz, hnd⟩ := hW
  have hA : DataW.TrodAll enc Tryd.prog W 0 (fun _ => true) true Tryd.f7.params.toList args.toList ds p := hA0
  rw [Tryd.params7] at hA hval hsz
  obtain ⟨v0, vs0, d0, ds0, p0, q0, hargs, rfl, rfl, h0, r0⟩ := trodAll_cons hA
  obtain ⟨v1, vs1, d1, ds1, p1, q1, rfl, rfl, rfl, h1, r1⟩ := trodAll_cons r0
  obtain ⟨v2, vs2, d2, ds2, p2, q2, rfl, rfl, rfl, h2, r2⟩ := trodAll_cons r1
  obtain ⟨rfl, rfl, rfl⟩ := trodAll_nil r2
  obtain rfl : args = #[v0, v1, v2] := by cases args; simp_all
  obtain ⟨rfl, rfl⟩ := trodVars_none hV
  obtain ⟨a0, len0, cap0, rfl⟩ := okWide_slice Tryd.underlying47 (hval 0 47 v0 rfl rfl)
  obtain ⟨a1, len1, cap1, rfl⟩ := okWide_slice Tryd.underlying47 (hval 1 47 v1 rfl rfl)
  obtain ⟨a2, len2, cap2, rfl⟩ := okWide_slice Tryd.underlying47 (hval 2 47 v2 rfl rfl)
  have lt0 : ∀ x ∈ p0, x.block < W.heap.size := by obtain ⟨m, hm⟩ := h0; exact DataW.trod_lt m _ _ _ hm
  have lt1 : ∀ x ∈ p1, x.block < W.heap.size := by obtain ⟨m, hm⟩ := h1; exact DataW.trod_lt m _ _ _ hm
  have lt2 : ∀ x ∈ p2, x.block < W.heap.size := by obtain ⟨m, hm⟩ := h2; exact DataW.trod_lt m _ _ _ hm
  obtain ⟨l0, hl0, hr0, hc0, hs0⟩ := open_bytes h0
  obtain ⟨l1, hl1, hr1, hc1, hs1⟩ := open_bytes h1
  obtain ⟨l2, hl2, hr2, hc2, hs2⟩ := open_bytes h2
  subst hl0
  subst hl1
  subst hl2
  have hT : TzTab W := tz_of_laid hL (by simp [Rows.peaksFewRow])
  have hK : KTab W := k_of_laid hL (by simp [Rows.peaksFewRow])
  have hB : BTab W := b_of_laid hL (by simp [Rows.peaksFewRow])
  clear hA0
  refine (PeaksFew_calls a0 a1 a2 cap0 cap1 cap2 l0 l1 l2 W hr0 hc0 hs0 hr1 hc1 hs1 hr2 hc2 hs2 hT ⟨hK, hB⟩).mono fun e W' ⟨he, bel⟩ => ?_
  subst he
  exact ⟨_, rfl, _, _, _, [], _, [], hW', trodAll_mk1 (shut_bool Tryd.underlying4 _),
    (trodAll_cons_mk (Below.trod laidOut_ (by kernel_rfl) (of_decide_eq_true (by kernel_rfl)) h0 bel lt0) (trodAll_cons_mk (Below.trod laidOut_ (by kernel_rfl) (of_decide_eq_true (by kernel_rfl)) h1 bel lt1) (trodAll_cons_mk (Below.trod laidOut_ (by kernel_rfl) (of_decide_eq_true (by kernel_rfl)) h2 bel lt2) trodAll_mk0))), rfl, bel.frame _, fun h => by cases h⟩

theorem laid_met (os : Os) : laidMet Tryd.prog Rows.peaksFewRow.laid ((laidWorld os).forCall (fun _ _ => 0) ⟨#[], #[.slice none 0 0, .slice none 0 0, .slice none 0 0], []⟩).memory :=
  laidMet_of_run' 8 (by kernel_rfl) (by kernel_rfl)
theorem reads (os : Os) {H : Type} (enc : TypeId × Value → H) : ∃ places, DataW.whole enc Tryd.prog ((laidWorld os).forCall (fun _ _ => 0) ⟨#[], #[.slice none 0 0, .slice none 0 0, .slice none 0 0], []⟩).memory Tryd.f7.params.toList Rows.peaksFewSpec.vars false #[Value.slice none 0 0, Value.slice none 0 0, Value.slice none 0 0].toList 8 = some ([.nil, .nil, .nil], [], places) :=
  ⟨[], by kernel_rfl⟩
set_option maxRecDepth 100000 in
theorem lifted (os : Os) (started : os.Started) (H : Type) (enc : TypeId × Value → H) (F : Stop.Interp) :
    ReturnsInHanded {} Tryd.checked os 7 .any ((OpenSpec.ofChange Rows.peaksFewSpec).preRow enc Tryd.prog Tryd.f7 Rows.peaksFewRow.domain false Rows.peaksFewRow.laid) (((OpenSpec.ofChange Rows.peaksFewSpec).at F).post enc Tryd.prog Tryd.f7 false true false false) := by
  obtain ⟨places, hx⟩ := reads os enc
  refine returnsInHanded_of_row (C := Tryd.checked) (s := OpenSpec.ofChange Rows.peaksFewSpec) own_ started (by kernel_rfl) Tryd.func7
    (witness_row_at (enc := enc) (C := Tryd.checked) false (laidWorld os) #[.slice none 0 0, .slice none 0 0, .slice none 0 0] rfl (by kernel_rfl) (by kernel_rfl) (by kernel_rfl)
      (OpenSpec.preRow_of_cond 8 hx (by kernel_rfl) (fun k hk => by cases hk) (by kernel_rfl) (laid_met os))) ?_
  intro W base args ds gs before hval hW _ _ hsz hL _ _
  exact contract H enc W base args ds gs before hval hW hsz hL

end Go.Proofs.YtoeibcdnhglobaaDoor.peaksFew
