-- printed by wip/tools/pr.py out of the translation; Lean checks it
import Derived.Test.YtimecfelcjgpiaaProg
import Derived.Below
import Derived.Deep.Draws
import Derived.Deep.AppendLies
import Derived.Maps.AppendAt
import Derived.OwnWalk
import Derived.Laws.BytesArg
import Derived.Laws.MakeOwn
import Derived.Laws.OwnMore
import Derived.Deep.OwnRows
import Derived.Tactics
import Derived.Lib.ConvBytes
import Derived.Laws.Slices
import Derived.WalkKit
import Derived.KernelRfl
import Derived.RowKit3
import Derived.Deep.LoopGhost
import Derived.Deep.QuietTactic
import Derived.BigQuiet
import Derived.WideLaws
import Derived.Deep.DeepCutAuto
import Derived.Deep.CutBlock
import Derived.Deep.RegionHeld3
import Derived.Laws.Rows
import Derived.Lib.AppendStr
import Derived.ArgAppend
import Derived.Laws.IdiomCopy
import Derived.OrdersHeld
import Derived.Laws.BitsLemmas
import Derived.RowKit
import Derived.Test.YtimecfelcjgpiaaWWords
import Derived.Test.YtimecfelcjgpiaaWLast
import Derived.Test.YtimecfelcjgpiaaWTab
import Derived.Test.YtimecfelcjgpiaaWFour
import Derived.Test.YtimecfelcjgpiaaWQPut
import Derived.Test.YtimecfelcjgpiaaWApart
import Derived.Test.YtimecfelcjgpiaaWArr
import Derived.Test.YtimecfelcjgpiaaWZeros
import Derived.Test.YtimecfelcjgpiaaWFoot
import Derived.Test.YtimecfelcjgpiaaWKept
import Derived.Test.YtimecfelcjgpiaaWShare
import Derived.Test.YtimecfelcjgpiaaWN
import Derived.Test.YtimecfelcjgpiaaWFootNe
import Derived.Test.YtimecfelcjgpiaaWAt
import Derived.Test.YtimecfelcjgpiaaWEqStruct
import Derived.Test.YtimecfelcjgpiaaWRepsOne
import Derived.Test.YtimecfelcjgpiaaWInv
import Derived.Test.YtimecfelcjgpiaaWInvWords
import Derived.Test.YtimecfelcjgpiaaWGuard
import Derived.Test.YtimecfelcjgpiaaWNEv
import Derived.Test.YtimecfelcjgpiaaWMore
import Derived.Test.YtimecfelcjgpiaaVec
namespace Go.Proofs.Ytimecfelcjgpiaa.Oa
open Go.Proofs.Ytimecfelcjgpiaa.F Go.Proofs.Ytimecfelcjgpiaa.Q Go.RowKit Go.Proofs.YtimecfelcjgpiaaW.PrintWords Go.Proofs.YtimecfelcjgpiaaW.PrintLast Go.Proofs.YtimecfelcjgpiaaW.PrintMore
attribute [local go_sem] max2_int min2_int max_two min_two max_three min_three max_four min_four   -- for this text's walks alone
set_option linter.unusedVariables false
set_option linter.unusedSimpArgs false



def errW : Option Int → Value
  | none => .nilIface
  | some c => .iface 0 (.int .i64 c)
theorem errW_none : errW none = .nilIface := rfl
theorem errW_some (c : Int) : errW (some c) = .iface 0 (.int .i64 c) := rfl

-- the values' own types

end Go.Proofs.Ytimecfelcjgpiaa.Oa
