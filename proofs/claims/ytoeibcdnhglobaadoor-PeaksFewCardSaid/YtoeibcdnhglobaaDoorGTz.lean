/- bits.TrailingZeros, laid at the program: by the shelf. -/
import Derived.Test.YtoeibcdnhglobaaDoorChecked
import Derived.Shelf.Spec.TrailingZeros
import Derived.Shelf.Lay
namespace Go.Proofs.YtoeibcdnhglobaaDoor.P
set_option linter.unusedVariables false
set_option linter.unusedSimpArgs false
open Go.Shelf
shelf_lay Lays7.n27 Nm7 27 at Tryd as Tryd.lays27
/-- The table that the count of trailing zeros reads lies whole. -/
def TzTab (w : World) : Prop := TabAt 1 Lib.deBruijn64tab w
theorem tz_calls (x : Nat) (hx : x < 18446744073709551616) (w : World) (hT : TabAt (Tryd.lays27_ren.g 1) Lib.deBruijn64tab w) :
    Calls Tryd.prog 80 #[.int .u64 x] w fun e w' => e = .returned (.int .i64 (Lib.ctz 64 x)) ∧ w' = w := Any7.bits_TrailingZeros Tryd.lays27 x hx w (fun _ => hT)
end Go.Proofs.YtoeibcdnhglobaaDoor.P
