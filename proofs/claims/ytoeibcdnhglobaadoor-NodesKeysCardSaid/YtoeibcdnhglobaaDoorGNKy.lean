/- pantilelaw15.NodesKeys: the walk. -/
import Derived.Test.YtoeibcdnhglobaaDoorGHex
import Derived.Test.YtoeibcdnhglobaaDoorGNLv
import Derived.Test.YtoeibcdnhglobaaDoorGNCd
namespace Go.Proofs.YtoeibcdnhglobaaDoor.P
set_option linter.unusedVariables false
set_option linter.unusedSimpArgs false
open Go.RowKit Go.Shelf Go.Proofs.YtoeibcdnhglobaaDoorW.PrintWords Go.Proofs.YtoeibcdnhglobaaDoorW.PrintLast Go.Proofs.YtoeibcdnhglobaaDoorW.PrintMore
open Go.Proofs.YtoeibcdnhglobaaDoor.Pure

theorem on_below {f : FuncId} {args : Array Value} {v : Value} {w W : World} (hW : Below w.heap.size w W) (h : Calls Tryd.prog f args W fun e w' => e = .returned v ∧ Below W.heap.size W w') :
    Calls Tryd.prog f args W fun e w' => e = .returned v ∧ Below w.heap.size w w' :=
  h.mono fun e w' ⟨he, hb⟩ => ⟨he, hW.trans (hb.mono hW.size)⟩
set_option maxRecDepth 100000 in
set_option maxHeartbeats 4000000 in
theorem NodesKeys_calls (a b : Int) (s : ByteArray) (ha0 : -9223372036854775808 ≤ a) (ha1 : a ≤ 9223372036854775807) (hb0 : -9223372036854775808 ≤ b) (hb1 : b ≤ 9223372036854775807) (w : World) (hT : PowTab w) (hG : GlobH w) :
    Calls Tryd.prog 20 #[.int .i64 a, .int .i64 b, .string s] w fun e w' => e = .returned (.bool true) ∧ Below w.heap.size w w' := by
  have k70 := fun (W : World) => few15_calls s W
  have hz := cut60_sz s
  generalize cut60 s = h at *
  have k71 := fun (W : World) (hW : Below w.heap.size w W) => on_below hW (Number_calls a ha0 ha1 W (hT.below hW))
  have k72 := fun (W : World) (hW : Below w.heap.size w W) => on_below hW (RNumber_calls a ha1 W)
  have k73 := fun (W : World) (hW : Below w.heap.size w W) => on_below hW (NodeK_calls a b ha0 ha1 hb0 hb1 W (hT.below hW))
  have k74 := fun (W : World) (hW : Below w.heap.size w W) => on_below hW (RNodeK_calls a b ha1 hb1 W)
  have k75 := fun (W : World) (hW : Below w.heap.size w W) => on_below hW (LeafK_calls a ha0 ha1 W (hT.below hW))
  have k76 := fun (W : World) (hW : Below w.heap.size w W) => on_below hW (StagedK_calls a ha0 ha1 W (hT.below hW))
  have k77 := fun (W : World) (hW : Below w.heap.size w W) => on_below hW (HeadK_calls a ha0 ha1 W (hT.below hW))
  have k78 := fun (W : World) (hW : Below w.heap.size w W) => on_below hW (HashK_calls h (by omega) W)
  have k79 := fun (W : World) (hW : Below w.heap.size w W) => on_below hW (HexK_calls h (by omega) W)
  have k69 := fun (W : World) (hW : Below w.heap.size w W) => on_below hW (lives15_calls W (hT.below hW) (hG.below hW))
  have s1 := padS_sz a.toNat 7 (by omega)
  unfold preK at k75 k76 k77
  generalize padS a.toNat 7 = X at *
  generalize nodeK a.toNat b.toNat = Y at *
  generalize hashK h = Z at *
  have z1 : ¬ 9223372036854775807 < (⟨#[108, 47]⟩ : ByteArray).size + X.size := by
    have : (⟨#[108, 47]⟩ : ByteArray).size = 2 := rfl
    omega
  have z2 : ¬ 9223372036854775807 < (⟨#[112, 47]⟩ : ByteArray).size + X.size := by
    have : (⟨#[112, 47]⟩ : ByteArray).size = 2 := rfl
    omega
  have z3 : ¬ 9223372036854775807 < (⟨#[104, 47]⟩ : ByteArray).size + X.size := by
    have : (⟨#[104, 47]⟩ : ByteArray).size = 2 := rfl
    omega
  have hB := Below.refl w.heap.size w
  clear hT hG hz s1 ha0 ha1 hb0 hb1
  go_enter Tryd.func20, Tryd.ntmps20
  go_wp2_with (first
    | (go_at_call 70; refine (k70 _).mono ?_; rintro e w' ⟨rfl, hw'⟩; rw [hw']; clear hw' w')
    | (go_at_call 71; go_loud (with_reducible refine (k71 _ hB).mono ?_; rintro e w9 ⟨rfl, hB9⟩; clear hB; have hB := hB9; clear hB9))
    | (go_at_call 72; go_loud (with_reducible refine (k72 _ hB).mono ?_; rintro e w9 ⟨rfl, hB9⟩; clear hB; have hB := hB9; clear hB9))
    | (go_at_call 73; go_loud (with_reducible refine (k73 _ hB).mono ?_; rintro e w9 ⟨rfl, hB9⟩; clear hB; have hB := hB9; clear hB9))
    | (go_at_call 74; go_loud (with_reducible refine (k74 _ hB).mono ?_; rintro e w9 ⟨rfl, hB9⟩; clear hB; have hB := hB9; clear hB9))
    | (go_at_call 75; go_loud (with_reducible refine (k75 _ hB).mono ?_; rintro e w9 ⟨rfl, hB9⟩; clear hB; have hB := hB9; clear hB9))
    | (go_at_call 76; go_loud (with_reducible refine (k76 _ hB).mono ?_; rintro e w9 ⟨rfl, hB9⟩; clear hB; have hB := hB9; clear hB9))
    | (go_at_call 77; go_loud (with_reducible refine (k77 _ hB).mono ?_; rintro e w9 ⟨rfl, hB9⟩; clear hB; have hB := hB9; clear hB9))
    | (go_at_call 78; go_loud (with_reducible refine (k78 _ hB).mono ?_; rintro e w9 ⟨rfl, hB9⟩; clear hB; have hB := hB9; clear hB9))
    | (go_at_call 79; go_loud (with_reducible refine (k79 _ hB).mono ?_; rintro e w9 ⟨rfl, hB9⟩; clear hB; have hB := hB9; clear hB9))
    | (go_at_call 69; go_loud (with_reducible refine (k69 _ hB).mono ?_; rintro e w9 ⟨rfl, hB9⟩; clear hB; have hB := hB9; clear hB9)))
  go_ret
  exact ⟨rfl, hB⟩
theorem wfI64 {n : Int} (h : (Lit.int .i64 n).wf = true) : -9223372036854775808 ≤ n ∧ n ≤ 9223372036854775807 := by
  have h2 : (decide ((-9223372036854775808 : Int) ≤ n) && decide (n ≤ 9223372036854775807)) = true := h
  rw [Bool.and_eq_true, decide_eq_true_eq, decide_eq_true_eq] at h2
  exact h2
end Go.Proofs.YtoeibcdnhglobaaDoor.P
