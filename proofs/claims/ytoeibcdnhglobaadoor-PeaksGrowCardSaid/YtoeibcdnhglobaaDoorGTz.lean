/- bits.TrailingZeros, laid at the program: by the shelf. -/
import Derived.Test.YtoeibcdnhglobaaDoorChecked
import Derived.Shelf.Spec.TrailingZeros
namespace Go.Proofs.YtoeibcdnhglobaaDoor.P
set_option linter.unusedVariables false
set_option linter.unusedSimpArgs false
open Go.Shelf
def Tryd.lays27_ren : Go.Shelf.Ren := ⟨fun | 27 => 80 | 28 => 108 | 29 => 109 | n => n, fun | 25 => 93 | 3 => 3 | 27 => 133 | 22 => 135 | 4 => 4 | 53 => 159 | 0 => 0 | 5 => 5 | 54 => 160 | n => n, fun | 0 => 0 | 1 => 1 | n => n⟩
theorem Tryd.lays27 : Go.Proofs.Lays7.n27 Tryd.prog Tryd.lays27_ren := {
  mixed := by kernel_rfl
  f27 := Tryd.func80.trans (congrArg some (by kernel_rfl))
  f28 := Tryd.func108.trans (congrArg some (by kernel_rfl))
  f29 := Tryd.func109.trans (congrArg some (by kernel_rfl))
  t0 := Tryd.underlying0
  a0 := Tryd.isAgg0
  z0 := Tryd.sizeOf0
  v0 := Tryd.zeroValue0
  i0 := by kernel_rfl
  t3 := Tryd.underlying3
  a3 := Tryd.isAgg3
  z3 := Tryd.sizeOf3
  v3 := Tryd.zeroValue3
  i3 := by kernel_rfl
  t4 := Tryd.underlying4
  a4 := Tryd.isAgg4
  z4 := Tryd.sizeOf4
  v4 := Tryd.zeroValue4
  i4 := by kernel_rfl
  t5 := Tryd.underlying5
  a5 := Tryd.isAgg5
  z5 := Tryd.sizeOf5
  v5 := Tryd.zeroValue5
  i5 := by kernel_rfl
  t22 := Tryd.underlying135
  a22 := Tryd.isAgg135
  z22 := Tryd.sizeOf135
  v22 := Tryd.zeroValue135
  i22 := by kernel_rfl
  t25 := Tryd.underlying93
  a25 := Tryd.isAgg93
  z25 := Tryd.sizeOf93
  v25 := Tryd.zeroValue93
  i25 := by kernel_rfl
  t27 := Tryd.underlying133
  a27 := Tryd.isAgg133
  z27 := Tryd.sizeOf133
  v27 := Tryd.zeroValue133
  i27 := by kernel_rfl
  t53 := Tryd.underlying159
  a53 := Tryd.isAgg159
  z53 := Tryd.sizeOf159
  v53 := Tryd.zeroValue159
  i53 := by kernel_rfl
  t54 := Tryd.underlying160
  a54 := Tryd.isAgg160
  z54 := Tryd.sizeOf160
  g0 := by kernel_rfl
  g1 := by kernel_rfl }
/-- The table that the count of trailing zeros reads lies whole. -/
def TzTab (w : World) : Prop := TabAt 1 Lib.deBruijn64tab w
theorem tz_calls (x : Nat) (hx : x < 18446744073709551616) (w : World) (hT : TabAt (Tryd.lays27_ren.g 1) Lib.deBruijn64tab w) :
    Calls Tryd.prog 80 #[.int .u64 x] w fun e w' => e = .returned (.int .i64 (Lib.ctz 64 x)) ∧ w' = w := Any7.bits_TrailingZeros Tryd.lays27 x hx w (fun _ => hT)
end Go.Proofs.YtoeibcdnhglobaaDoor.P
