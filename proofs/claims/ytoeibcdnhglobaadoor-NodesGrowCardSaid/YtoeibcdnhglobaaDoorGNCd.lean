/- The table of powers of ten, as the cards lay it. -/
import Derived.Test.YtoeibcdnhglobaaDoorF5
import Derived.Test.YtoeibcdnhglobaaDoorGNum
namespace Go.Proofs.YtoeibcdnhglobaaDoor.P
set_option linter.unusedVariables false
set_option linter.unusedSimpArgs false
open Go.ChangeShapes Go.WideShapes Go.ChangeAt Go.RowKit
theorem gP10 : Tryd.prog.globalNamed "internal/strconv.uint64pow10" = some 5 := by kernel_rfl
theorem gP10Type : (Tryd.prog.globals[5]?).map (·.type) = some 195 := by kernel_rfl
theorem pow_of_laid {W : World} {l : List (String × DataW Unit)} (h : laidMetH Tryd.prog l W) (hl : l.filter (fun x => x.1 == "internal/strconv.uint64pow10") = [("internal/strconv.uint64pow10", Rows.laid_internal_strconv_uint64pow10)]) : PowTab W := by
  have h1 := laidMetH.filter (fun x => x.1 == "internal/strconv.uint64pow10") h
  rw [hl] at h1
  have h2 : Lib.TabIs Tryd.prog W "internal/strconv.uint64pow10" .u64 Lib.pow10Tab :=
    Lib.tabIs_of_head (rest := []) gP10 gP10Type Tryd.underlying195 Tryd.underlying135 (by kernel_rfl) (by kernel_rfl) h1
  exact Lib.tabBelow_of_tabIs h2
end Go.Proofs.YtoeibcdnhglobaaDoor.P
