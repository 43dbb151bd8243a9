/- Functions of the Go program as plain Lean functions, and the proofs that the code comes to just their answers; of a law, the row. Written by a program of this session (wip/myprint.py over the given print). No condition. -/
import Derived.Test.YtbjfhchlngiboaaProg
import Derived.Below
import Derived.Deep.Draws
import Derived.Deep.AppendLies
import Derived.Maps.AppendAt
import Derived.OwnWalk
import Derived.Laws.BytesArg
import Derived.Laws.MakeOwn
import Derived.Laws.OwnMore
import Derived.Deep.OwnRows
import Derived.Tactics
import Derived.Lib.ConvBytes
import Derived.Laws.Slices
import Derived.WalkKit
import Derived.KernelRfl
import Derived.RowKit3
import Derived.Deep.LoopGhost
import Derived.Deep.QuietTactic
import Derived.BigQuiet
import Derived.WideLaws
import Derived.Deep.DeepCutAuto
import Derived.Deep.CutBlock
import Derived.Deep.RegionHeld3
import Derived.Laws.Rows
import Derived.Lib.AppendStr
import Derived.ArgAppend
import Derived.Laws.IdiomCopy
import Derived.OrdersHeld
import Derived.Laws.BitsLemmas
import Derived.RowKit
import Derived.WalkMore
import Derived.Outline
import Derived.Test.YtbjfhchlngiboaaHWords
import Derived.Test.YtbjfhchlngiboaaWWords
import Derived.Test.YtbjfhchlngiboaaWLast
import Derived.Test.YtbjfhchlngiboaaWTab
import Derived.Test.YtbjfhchlngiboaaWFour
import Derived.Test.YtbjfhchlngiboaaWQPut
import Derived.Test.YtbjfhchlngiboaaWApart
import Derived.Test.YtbjfhchlngiboaaWArr
import Derived.Test.YtbjfhchlngiboaaWZeros
import Derived.Test.YtbjfhchlngiboaaWFoot
import Derived.Test.YtbjfhchlngiboaaWKept
import Derived.Test.YtbjfhchlngiboaaWShare
import Derived.Test.YtbjfhchlngiboaaWN
import Derived.Test.YtbjfhchlngiboaaWFootNe
import Derived.Test.YtbjfhchlngiboaaWAt
import Derived.Test.YtbjfhchlngiboaaWEqStruct
import Derived.Test.YtbjfhchlngiboaaWRepsOne
import Derived.Test.YtbjfhchlngiboaaWInv
import Derived.Test.YtbjfhchlngiboaaWInvWords
import Derived.Test.YtbjfhchlngiboaaWGuard
import Derived.Test.YtbjfhchlngiboaaWNEv
import Derived.Test.YtbjfhchlngiboaaWMore
namespace Go.Proofs.Ytbjfhchlngiboaa.PAll
open Go.RowKit Go.Proofs.YtbjfhchlngiboaaW.PrintWords Go.Proofs.YtbjfhchlngiboaaW.PrintLast Go.Proofs.YtbjfhchlngiboaaW.PrintMore
attribute [local go_sem] max2_int min2_int max_two min_two max_three min_three max_four min_four   -- for this text's walks alone
set_option linter.unusedVariables false
set_option linter.unusedSimpArgs false



def errW : Option Int → Value
  | none => .nilIface
  | some c => .iface 0 (.int .i64 c)
theorem errW_none : errW none = .nilIface := rfl
theorem errW_some (c : Int) : errW (some c) = .iface 0 (.int .i64 c) := rfl

theorem info2 : (Try.prog.info? 2).map (fun i => (i.zero, i.size, i.bytes)) = some (some (.int .i64 0), 1, 8) := by kernel_rfl
theorem info5 : (Try.prog.info? 5).map (fun i => (i.zero, i.size, i.bytes)) = some (some (.int .u8 0), 1, 1) := by kernel_rfl
-- the values' own types

end Go.Proofs.Ytbjfhchlngiboaa.PAll
