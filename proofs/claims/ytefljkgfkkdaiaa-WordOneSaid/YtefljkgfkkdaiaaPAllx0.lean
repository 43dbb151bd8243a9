/- Functions of the Go program as plain Lean functions, and the proofs that the code comes to just their answers; of a law, the row. Written by a program of this session (wip/myprint.py over the given print). No condition. -/
import Derived.Test.YtefljkgfkkdaiaaProg
import Derived.Below
import Derived.Deep.Draws
import Derived.Deep.AppendLies
import Derived.Maps.AppendAt
import Derived.OwnWalk
import Derived.Laws.BytesArg
import Derived.Laws.MakeOwn
import Derived.Laws.OwnMore
import Derived.Deep.OwnRows
import Derived.Tactics
import Derived.Lib.ConvBytes
import Derived.Laws.Slices
import Derived.WalkKit
import Derived.KernelRfl
import Derived.RowKit3
import Derived.Deep.LoopGhost
import Derived.Deep.QuietTactic
import Derived.BigQuiet
import Derived.WideLaws
import Derived.Deep.DeepCutAuto
import Derived.Deep.CutBlock
import Derived.Deep.RegionHeld3
import Derived.Laws.Rows
import Derived.Lib.AppendStr
import Derived.ArgAppend
import Derived.Laws.IdiomCopy
import Derived.OrdersHeld
import Derived.Laws.BitsLemmas
import Derived.RowKit
import Derived.WalkMore
import Derived.Outline
import Derived.Test.YtefljkgfkkdaiaaHWords
import Derived.Test.YtefljkgfkkdaiaaWWords
import Derived.Test.YtefljkgfkkdaiaaWLast
import Derived.Test.YtefljkgfkkdaiaaWTab
import Derived.Test.YtefljkgfkkdaiaaWFour
import Derived.Test.YtefljkgfkkdaiaaWQPut
import Derived.Test.YtefljkgfkkdaiaaWApart
import Derived.Test.YtefljkgfkkdaiaaWArr
import Derived.Test.YtefljkgfkkdaiaaWZeros
import Derived.Test.YtefljkgfkkdaiaaWFoot
import Derived.Test.YtefljkgfkkdaiaaWKept
import Derived.Test.YtefljkgfkkdaiaaWShare
import Derived.Test.YtefljkgfkkdaiaaWN
import Derived.Test.YtefljkgfkkdaiaaWFootNe
import Derived.Test.YtefljkgfkkdaiaaWAt
import Derived.Test.YtefljkgfkkdaiaaWEqStruct
import Derived.Test.YtefljkgfkkdaiaaWRepsOne
import Derived.Test.YtefljkgfkkdaiaaWInv
import Derived.Test.YtefljkgfkkdaiaaWInvWords
import Derived.Test.YtefljkgfkkdaiaaWGuard
import Derived.Test.YtefljkgfkkdaiaaWNEv
import Derived.Test.YtefljkgfkkdaiaaWMore
namespace Go.Proofs.Ytefljkgfkkdaiaa.PAll
open Go.RowKit Go.Proofs.YtefljkgfkkdaiaaW.PrintWords Go.Proofs.YtefljkgfkkdaiaaW.PrintLast Go.Proofs.YtefljkgfkkdaiaaW.PrintMore
attribute [local go_sem] max2_int min2_int max_two min_two max_three min_three max_four min_four   -- for this text's walks alone
set_option linter.unusedVariables false
set_option linter.unusedSimpArgs false



def errW : Option Int → Value
  | none => .nilIface
  | some c => .iface 0 (.int .i64 c)
theorem errW_none : errW none = .nilIface := rfl
theorem errW_some (c : Int) : errW (some c) = .iface 0 (.int .i64 c) := rfl

theorem info5 : (Try.prog.info? 5).map (fun i => (i.zero, i.size, i.bytes)) = some (some (.int .u8 0), 1, 1) := by kernel_rfl
-- the values' own types

end Go.Proofs.Ytefljkgfkkdaiaa.PAll
