-- printed by wip/tools/pr.py out of the translation; Lean checks it
import Derived.Test.YtfiapekpeiapbaaDoorProg
import Derived.Below
import Derived.Deep.Draws
import Derived.Deep.AppendLies
import Derived.Maps.AppendAt
import Derived.OwnWalk
import Derived.Laws.BytesArg
import Derived.Laws.MakeOwn
import Derived.Laws.OwnMore
import Derived.Deep.OwnRows
import Derived.Tactics
import Derived.Lib.ConvBytes
import Derived.Laws.Slices
import Derived.WalkKit
import Derived.KernelRfl
import Derived.RowKit3
import Derived.Deep.LoopGhost
import Derived.Deep.QuietTactic
import Derived.BigQuiet
import Derived.WideLaws
import Derived.Deep.DeepCutAuto
import Derived.Deep.CutBlock
import Derived.Deep.RegionHeld3
import Derived.Laws.Rows
import Derived.Lib.AppendStr
import Derived.ArgAppend
import Derived.Laws.IdiomCopy
import Derived.OrdersHeld
import Derived.Laws.BitsLemmas
import Derived.RowKit
import Derived.Test.YtfiapekpeiapbaaDoorWWords
import Derived.Test.YtfiapekpeiapbaaDoorWLast
import Derived.Test.YtfiapekpeiapbaaDoorWTab
import Derived.Test.YtfiapekpeiapbaaDoorWFour
import Derived.Test.YtfiapekpeiapbaaDoorWQPut
import Derived.Test.YtfiapekpeiapbaaDoorWApart
import Derived.Test.YtfiapekpeiapbaaDoorWArr
import Derived.Test.YtfiapekpeiapbaaDoorWZeros
import Derived.Test.YtfiapekpeiapbaaDoorWFoot
import Derived.Test.YtfiapekpeiapbaaDoorWKept
import Derived.Test.YtfiapekpeiapbaaDoorWShare
import Derived.Test.YtfiapekpeiapbaaDoorWN
import Derived.Test.YtfiapekpeiapbaaDoorWFootNe
import Derived.Test.YtfiapekpeiapbaaDoorWAt
import Derived.Test.YtfiapekpeiapbaaDoorWEqStruct
import Derived.Test.YtfiapekpeiapbaaDoorWRepsOne
import Derived.Test.YtfiapekpeiapbaaDoorWInv
import Derived.Test.YtfiapekpeiapbaaDoorWInvWords
import Derived.Test.YtfiapekpeiapbaaDoorWGuard
import Derived.Test.YtfiapekpeiapbaaDoorWNEv
import Derived.Test.YtfiapekpeiapbaaDoorWMore
import Derived.Test.YtfiapekpeiapbaaDoorKind
namespace Go.Proofs.YtfiapekpeiapbaaDoor.Fa
open Go.Proofs.YtfiapekpeiapbaaDoor.F Go.Proofs.YtfiapekpeiapbaaDoor.Q Go.RowKit Go.Proofs.YtfiapekpeiapbaaDoorW.PrintWords Go.Proofs.YtfiapekpeiapbaaDoorW.PrintLast Go.Proofs.YtfiapekpeiapbaaDoorW.PrintMore
attribute [local go_sem] max2_int min2_int max_two min_two max_three min_three max_four min_four   -- for this text's walks alone
set_option linter.unusedVariables false
set_option linter.unusedSimpArgs false



def errW : Option Int → Value
  | none => .nilIface
  | some c => .iface 0 (.int .i64 c)
theorem errW_none : errW none = .nilIface := rfl
theorem errW_some (c : Int) : errW (some c) = .iface 0 (.int .i64 c) := rfl

-- the values' own types

end Go.Proofs.YtfiapekpeiapbaaDoor.Fa
