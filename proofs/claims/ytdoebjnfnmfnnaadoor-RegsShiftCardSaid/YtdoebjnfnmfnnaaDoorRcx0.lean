-- printed by wip/tools/pr.py out of the translation; Lean checks it
import Derived.Test.YtdoebjnfnmfnnaaDoorProg
import Derived.Below
import Derived.Deep.Draws
import Derived.Deep.AppendLies
import Derived.Maps.AppendAt
import Derived.OwnWalk
import Derived.Laws.BytesArg
import Derived.Laws.MakeOwn
import Derived.Laws.OwnMore
import Derived.Deep.OwnRows
import Derived.Tactics
import Derived.Lib.ConvBytes
import Derived.Laws.Slices
import Derived.WalkKit
import Derived.KernelRfl
import Derived.RowKit3
import Derived.Deep.LoopGhost
import Derived.Deep.QuietTactic
import Derived.BigQuiet
import Derived.WideLaws
import Derived.Deep.DeepCutAuto
import Derived.Deep.CutBlock
import Derived.Deep.RegionHeld3
import Derived.Laws.Rows
import Derived.Lib.AppendStr
import Derived.ArgAppend
import Derived.Laws.IdiomCopy
import Derived.OrdersHeld
import Derived.Laws.BitsLemmas
import Derived.RowKit
import Derived.Test.YtdoebjnfnmfnnaaDoorWWords
import Derived.Test.YtdoebjnfnmfnnaaDoorWLast
import Derived.Test.YtdoebjnfnmfnnaaDoorWTab
import Derived.Test.YtdoebjnfnmfnnaaDoorWFour
import Derived.Test.YtdoebjnfnmfnnaaDoorWQPut
import Derived.Test.YtdoebjnfnmfnnaaDoorWApart
import Derived.Test.YtdoebjnfnmfnnaaDoorWArr
import Derived.Test.YtdoebjnfnmfnnaaDoorWZeros
import Derived.Test.YtdoebjnfnmfnnaaDoorWFoot
import Derived.Test.YtdoebjnfnmfnnaaDoorWKept
import Derived.Test.YtdoebjnfnmfnnaaDoorWShare
import Derived.Test.YtdoebjnfnmfnnaaDoorWN
import Derived.Test.YtdoebjnfnmfnnaaDoorWFootNe
import Derived.Test.YtdoebjnfnmfnnaaDoorWAt
import Derived.Test.YtdoebjnfnmfnnaaDoorWEqStruct
import Derived.Test.YtdoebjnfnmfnnaaDoorWRepsOne
import Derived.Test.YtdoebjnfnmfnnaaDoorWInv
import Derived.Test.YtdoebjnfnmfnnaaDoorWInvWords
import Derived.Test.YtdoebjnfnmfnnaaDoorWGuard
import Derived.Test.YtdoebjnfnmfnnaaDoorWNEv
import Derived.Test.YtdoebjnfnmfnnaaDoorWMore
import Derived.Test.YtdoebjnfnmfnnaaDoorMay
namespace Go.Proofs.YtdoebjnfnmfnnaaDoor.Rc
open Go.Proofs.YtdoebjnfnmfnnaaDoor.F Go.Proofs.YtdoebjnfnmfnnaaDoor.Q Go.RowKit Go.Proofs.YtdoebjnfnmfnnaaDoorW.PrintWords Go.Proofs.YtdoebjnfnmfnnaaDoorW.PrintLast Go.Proofs.YtdoebjnfnmfnnaaDoorW.PrintMore
attribute [local go_sem] max2_int min2_int max_two min_two max_three min_three max_four min_four   -- for this text's walks alone
set_option linter.unusedVariables false
set_option linter.unusedSimpArgs false



def errW : Option Int → Value
  | none => .nilIface
  | some c => .iface 0 (.int .i64 c)
theorem errW_none : errW none = .nilIface := rfl
theorem errW_some (c : Int) : errW (some c) = .iface 0 (.int .i64 c) := rfl

-- the values' own types

end Go.Proofs.YtdoebjnfnmfnnaaDoor.Rc
