-- Written by a program (wip/tools/shared.sh) over the kit's own print of the loaded functions.
import Derived.Test.YtoeibcdnhglobaaDoorProg
import Derived.Below
import Derived.Deep.Draws
import Derived.Deep.AppendLies
import Derived.Maps.AppendAt
import Derived.OwnWalk
import Derived.Laws.BytesArg
import Derived.Laws.MakeOwn
import Derived.Laws.OwnMore
import Derived.Deep.OwnRows
import Derived.Tactics
import Derived.Lib.ConvBytes
import Derived.Laws.Slices
import Derived.WalkKit
import Derived.KernelRfl
import Derived.RowKit3
import Derived.Deep.LoopGhost
import Derived.Deep.QuietTactic
import Derived.BigQuiet
import Derived.WideLaws
import Derived.Deep.DeepCutAuto
import Derived.Deep.CutBlock
import Derived.Deep.RegionHeld3
import Derived.Laws.Rows
import Derived.Lib.AppendStr
import Derived.ArgAppend
import Derived.Laws.IdiomCopy
import Derived.OrdersHeld
import Derived.Laws.BitsLemmas
import Derived.RowKit
import Derived.Test.YtoeibcdnhglobaaDoorWWords
import Derived.Test.YtoeibcdnhglobaaDoorWLast
import Derived.Test.YtoeibcdnhglobaaDoorWTab
import Derived.Test.YtoeibcdnhglobaaDoorWFour
import Derived.Test.YtoeibcdnhglobaaDoorWQPut
import Derived.Test.YtoeibcdnhglobaaDoorWApart
import Derived.Test.YtoeibcdnhglobaaDoorWArr
import Derived.Test.YtoeibcdnhglobaaDoorWZeros
import Derived.Test.YtoeibcdnhglobaaDoorWFoot
import Derived.Test.YtoeibcdnhglobaaDoorWKept
import Derived.Test.YtoeibcdnhglobaaDoorWShare
import Derived.Test.YtoeibcdnhglobaaDoorWN
import Derived.Test.YtoeibcdnhglobaaDoorWFootNe
import Derived.Test.YtoeibcdnhglobaaDoorWAt
import Derived.Test.YtoeibcdnhglobaaDoorWEqStruct
import Derived.Test.YtoeibcdnhglobaaDoorWRepsOne
import Derived.Test.YtoeibcdnhglobaaDoorWInv
import Derived.Test.YtoeibcdnhglobaaDoorWInvWords
import Derived.Test.YtoeibcdnhglobaaDoorWGuard
import Derived.Test.YtoeibcdnhglobaaDoorWNEv
import Derived.Test.YtoeibcdnhglobaaDoorWMore
namespace Go.Proofs.YtoeibcdnhglobaaDoor.Q
open Go.RowKit Go.Proofs.YtoeibcdnhglobaaDoorW.PrintWords Go.Proofs.YtoeibcdnhglobaaDoorW.PrintLast Go.Proofs.YtoeibcdnhglobaaDoorW.PrintMore
attribute [local go_sem] max2_int min2_int max_two min_two max_three min_three max_four min_four   -- for this text's walks alone
set_option linter.unusedVariables false
set_option linter.unusedSimpArgs false



def errW : Option Int → Value
 | none => .nilIface
 | some c => .iface 0 (.int .i64 c)
theorem errW_none : errW none = .nilIface := rfl
theorem errW_some (c : Int) : errW (some c) = .iface 0 (.int .i64 c) := rfl

theorem info9 : (Tryd.prog.info? 9).map (fun i => (i.zero, i.size, i.bytes)) = some (some (.string ⟨#[]⟩), 1, 16) := by kernel_rfl
-- the values' own types

end Go.Proofs.YtoeibcdnhglobaaDoor.Q
