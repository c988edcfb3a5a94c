/- nodes' keys and pantileref15's: the walks. -/
import Derived.Test.YtoeibcdnhglobaaDoorGNum
namespace Go.Proofs.YtoeibcdnhglobaaDoor.P
set_option linter.unusedVariables false
set_option linter.unusedSimpArgs false
open Go.RowKit Go.Shelf Go.Proofs.YtoeibcdnhglobaaDoorW.PrintWords Go.Proofs.YtoeibcdnhglobaaDoorW.PrintLast Go.Proofs.YtoeibcdnhglobaaDoorW.PrintMore
open Go.Proofs.YtoeibcdnhglobaaDoor.Pure

theorem padS_sz (n k : Nat) (h : n ≤ 9223372036854775807) : (padS n k).size ≤ k + 19 := by
  have hd := decS_le n h
  unfold padS
  rw [ByteArray.size_append]
  have : (⟨(List.replicate (k - (decS n).size) 48).toArray⟩ : ByteArray).size = k - (decS n).size := by
    show (List.replicate (k - (decS n).size) (48 : UInt8)).toArray.size = _
    simp
  omega
/-- The key of a node. -/
def nodeK (l i : Nat) : ByteArray := ((⟨#[110, 47]⟩ : ByteArray) ++ padS l 2 ++ ⟨#[47]⟩) ++ padS i 7
def preK (c : UInt8) (i : Nat) : ByteArray := (⟨#[c, 47]⟩ : ByteArray) ++ padS i 7
set_option maxHeartbeats 4000000 in
theorem Number_calls (n : Int) (h0 : -9223372036854775808 ≤ n) (h1 : n ≤ 9223372036854775807) (w : World) (hp : PowTab w) :
    Calls Tryd.prog 71 #[.int .i64 n] w fun e w' => e = .returned (.string (padS n.toNat 7)) ∧ Below w.heap.size w w' := by
  have k : Calls Tryd.prog 104 #[.int .i64 n, .int .i64 7] w _ := padded_calls n 7 (by omega) h0 h1 w hp
  generalize padS n.toNat 7 = X at *
  clear hp
  go_enter Tryd.func71, Tryd.ntmps71
  go_wp2_with (go_at_call 104; with_reducible refine k.mono ?_; rintro e w1 ⟨rfl, hb1⟩)
  go_ret
  exact ⟨rfl, hb1⟩
set_option maxHeartbeats 4000000 in
theorem RNumber_calls (n : Int) (h1 : n ≤ 9223372036854775807) (w : World) :
    Calls Tryd.prog 72 #[.int .i64 n] w fun e w' => e = .returned (.string (padS n.toNat 7)) ∧ Below w.heap.size w w' := by
  have k : Calls Tryd.prog 105 #[.int .i64 n, .int .i64 7] w _ := pad_calls n 7 (by omega) h1 w
  generalize padS n.toNat 7 = X at *
  go_enter Tryd.func72, Tryd.ntmps72
  go_wp2_with (go_at_call 105; with_reducible refine k.mono ?_; rintro e w1 ⟨rfl, hb1⟩)
  go_ret
  exact ⟨rfl, hb1⟩
set_option maxHeartbeats 4000000 in
theorem NodeK_calls (l i : Int) (h0 : -9223372036854775808 ≤ l) (h1 : l ≤ 9223372036854775807) (h2 : -9223372036854775808 ≤ i) (h3 : i ≤ 9223372036854775807) (w : World) (hp : PowTab w) :
    Calls Tryd.prog 73 #[.int .i64 l, .int .i64 i] w fun e w' => e = .returned (.string (nodeK l.toNat i.toNat)) ∧ Below w.heap.size w w' := by
  have k1 : Calls Tryd.prog 104 #[.int .i64 l, .int .i64 2] w _ := padded_calls l 2 (by omega) h0 h1 w hp
  have k2 := fun (W : World) (hW : Below w.heap.size w W) => Number_calls i h2 h3 W (hp.below hW)
  have s1 := padS_sz l.toNat 2 (by omega)
  have s2 := padS_sz i.toNat 7 (by omega)
  unfold nodeK
  generalize padS l.toNat 2 = X at *
  generalize padS i.toNat 7 = Y at *
  have c1 : (⟨#[110, 47]⟩ : ByteArray).size = 2 := rfl
  have c2 : (⟨#[47]⟩ : ByteArray).size = 1 := rfl
  have z1 : ¬ 9223372036854775807 < (⟨#[110, 47]⟩ : ByteArray).size + X.size := by omega
  have z2 : ¬ 9223372036854775807 < ((⟨#[110, 47]⟩ : ByteArray) ++ X).size + (⟨#[47]⟩ : ByteArray).size := by rw [ByteArray.size_append]; omega
  have z3 : ¬ 9223372036854775807 < ((⟨#[110, 47]⟩ : ByteArray) ++ X ++ ⟨#[47]⟩).size + Y.size := by rw [ByteArray.size_append, ByteArray.size_append]; omega
  clear c1 c2
  clear hp s1 s2
  go_enter Tryd.func73, Tryd.ntmps73
  go_wp2_with (first
    | (go_at_call 104; with_reducible refine k1.mono ?_; rintro e w1 ⟨rfl, hb1⟩)
    | (go_at_call 71; refine (k2 _ hb1).mono ?_; rintro e w2 ⟨rfl, hb2⟩))
  go_ret
  exact ⟨rfl, hb1.trans (hb2.mono hb1.size)⟩
set_option maxHeartbeats 4000000 in
theorem RNodeK_calls (l i : Int) (h1 : l ≤ 9223372036854775807) (h3 : i ≤ 9223372036854775807) (w : World) :
    Calls Tryd.prog 74 #[.int .i64 l, .int .i64 i] w fun e w' => e = .returned (.string (nodeK l.toNat i.toNat)) ∧ Below w.heap.size w w' := by
  have k1 : ∀ W : World, Calls Tryd.prog 105 #[.int .i64 l, .int .i64 2] W _ := fun W => pad_calls l 2 (by omega) h1 W
  have k2 : ∀ W : World, Calls Tryd.prog 105 #[.int .i64 i, .int .i64 7] W _ := fun W => pad_calls i 7 (by omega) h3 W
  have s1 := padS_sz l.toNat 2 (by omega)
  have s2 := padS_sz i.toNat 7 (by omega)
  unfold nodeK
  generalize padS l.toNat 2 = X at *
  generalize padS i.toNat 7 = Y at *
  have c1 : (⟨#[110, 47]⟩ : ByteArray).size = 2 := rfl
  have c2 : (⟨#[47]⟩ : ByteArray).size = 1 := rfl
  have z1 : ¬ 9223372036854775807 < (⟨#[110, 47]⟩ : ByteArray).size + X.size := by omega
  have z2 : ¬ 9223372036854775807 < ((⟨#[110, 47]⟩ : ByteArray) ++ X).size + (⟨#[47]⟩ : ByteArray).size := by rw [ByteArray.size_append]; omega
  have z3 : ¬ 9223372036854775807 < ((⟨#[110, 47]⟩ : ByteArray) ++ X ++ ⟨#[47]⟩).size + Y.size := by rw [ByteArray.size_append, ByteArray.size_append]; omega
  clear c1 c2
  clear s1 s2
  go_enter Tryd.func74, Tryd.ntmps74
  go_wp2_with (go_at_call 105; first
    | (with_reducible refine (k1 _).mono ?_; rintro e w1 ⟨rfl, hb1⟩; clear k1)
    | (with_reducible refine (k2 _).mono ?_; rintro e w2 ⟨rfl, hb2⟩; clear k2))
  go_ret
  exact ⟨rfl, hb1.trans (hb2.mono hb1.size)⟩
set_option maxHeartbeats 4000000 in
theorem LeafK_calls (n : Int) (h0 : -9223372036854775808 ≤ n) (h1 : n ≤ 9223372036854775807) (w : World) (hp : PowTab w) :
    Calls Tryd.prog 75 #[.int .i64 n] w fun e w' => e = .returned (.string (preK 108 n.toNat)) ∧ Below w.heap.size w w' := by
  have k := Number_calls n h0 h1 w hp
  have s1 := padS_sz n.toNat 7 (by omega)
  unfold preK
  generalize padS n.toNat 7 = X at *
  have z1 : ¬ 9223372036854775807 < (⟨#[108, 47]⟩ : ByteArray).size + X.size := by
    have : (⟨#[108, 47]⟩ : ByteArray).size = 2 := rfl
    omega
  clear hp s1
  go_enter Tryd.func75, Tryd.ntmps75
  go_wp2_with (go_at_call 71; with_reducible refine k.mono ?_; rintro e w1 ⟨rfl, hb1⟩)
  go_ret
  exact ⟨rfl, hb1⟩
set_option maxHeartbeats 4000000 in
theorem StagedK_calls (n : Int) (h0 : -9223372036854775808 ≤ n) (h1 : n ≤ 9223372036854775807) (w : World) (hp : PowTab w) :
    Calls Tryd.prog 76 #[.int .i64 n] w fun e w' => e = .returned (.string (preK 112 n.toNat)) ∧ Below w.heap.size w w' := by
  have k := Number_calls n h0 h1 w hp
  have s1 := padS_sz n.toNat 7 (by omega)
  unfold preK
  generalize padS n.toNat 7 = X at *
  have z1 : ¬ 9223372036854775807 < (⟨#[112, 47]⟩ : ByteArray).size + X.size := by
    have : (⟨#[112, 47]⟩ : ByteArray).size = 2 := rfl
    omega
  clear hp s1
  go_enter Tryd.func76, Tryd.ntmps76
  go_wp2_with (go_at_call 71; with_reducible refine k.mono ?_; rintro e w1 ⟨rfl, hb1⟩)
  go_ret
  exact ⟨rfl, hb1⟩
set_option maxHeartbeats 4000000 in
theorem HeadK_calls (n : Int) (h0 : -9223372036854775808 ≤ n) (h1 : n ≤ 9223372036854775807) (w : World) (hp : PowTab w) :
    Calls Tryd.prog 77 #[.int .i64 n] w fun e w' => e = .returned (.string (preK 104 n.toNat)) ∧ Below w.heap.size w w' := by
  have k := Number_calls n h0 h1 w hp
  have s1 := padS_sz n.toNat 7 (by omega)
  unfold preK
  generalize padS n.toNat 7 = X at *
  have z1 : ¬ 9223372036854775807 < (⟨#[104, 47]⟩ : ByteArray).size + X.size := by
    have : (⟨#[104, 47]⟩ : ByteArray).size = 2 := rfl
    omega
  clear hp s1
  go_enter Tryd.func77, Tryd.ntmps77
  go_wp2_with (go_at_call 71; with_reducible refine k.mono ?_; rintro e w1 ⟨rfl, hb1⟩)
  go_ret
  exact ⟨rfl, hb1⟩
/-- A text of 60 bytes at the most. -/
def cut60 (s : ByteArray) : ByteArray := if 60 < s.size then s.extract 0 60 else s
theorem cut60_sz (s : ByteArray) : (cut60 s).size ≤ 60 := by
  unfold cut60
  split
  · rw [ByteArray.size_extract]; omega
  · omega
set_option maxHeartbeats 4000000 in
theorem few15_calls (s : ByteArray) (w : World) : Calls Tryd.prog 70 #[.string s] w fun e w' => e = .returned (.string (cut60 s)) ∧ w' = w := by
  by_cases h : 60 < s.size
  · have d1 : decide ((60 : Int) < (s.size : Int)) = true := decide_eq_true (by omega)
    have g0 : (60 : Int) ≤ (s.size : Int) := by omega
    have e : cut60 s = s.extract 0 60 := if_pos h
    rw [e]
    clear e
    go_enter Tryd.func70, Tryd.ntmps70
    go_wp2
    go_ret
    exact ⟨rfl, rfl⟩
  · have d1 : decide ((60 : Int) < (s.size : Int)) = false := decide_eq_false (by omega)
    have e : cut60 s = s := if_neg h
    rw [e]
    clear e
    go_enter Tryd.func70, Tryd.ntmps70
    go_wp2
    go_ret
    exact ⟨rfl, rfl⟩
end Go.Proofs.YtoeibcdnhglobaaDoor.P
