-- WRITTEN by given.py of this claim's repo over the kit's printer, with functions walked by hand
import Derived.Test.YtgejmmkfaliinaaProg
import Derived.Below
import Derived.Deep.Draws
import Derived.Deep.AppendLies
import Derived.Maps.AppendAt
import Derived.OwnWalk
import Derived.Laws.BytesArg
import Derived.Laws.MakeOwn
import Derived.Laws.OwnMore
import Derived.Deep.OwnRows
import Derived.Tactics
import Derived.Lib.ConvBytes
import Derived.Laws.Slices
import Derived.WalkKit
import Derived.KernelRfl
import Derived.RowKit3
import Derived.Deep.LoopGhost
import Derived.Deep.QuietTactic
import Derived.BigQuiet
import Derived.WideLaws
import Derived.Deep.DeepCutAuto
import Derived.Deep.CutBlock
import Derived.Deep.RegionHeld3
import Derived.Laws.Rows
import Derived.Lib.AppendStr
import Derived.ArgAppend
import Derived.Laws.IdiomCopy
import Derived.OrdersHeld
import Derived.Laws.BitsLemmas
import Derived.RowKit
import Derived.Test.YtgejmmkfaliinaaWWords
import Derived.Test.YtgejmmkfaliinaaWLast
import Derived.Test.YtgejmmkfaliinaaWTab
import Derived.Test.YtgejmmkfaliinaaWFour
import Derived.Test.YtgejmmkfaliinaaWQPut
import Derived.Test.YtgejmmkfaliinaaWApart
import Derived.Test.YtgejmmkfaliinaaWArr
import Derived.Test.YtgejmmkfaliinaaWZeros
import Derived.Test.YtgejmmkfaliinaaWFoot
import Derived.Test.YtgejmmkfaliinaaWKept
import Derived.Test.YtgejmmkfaliinaaWShare
import Derived.Test.YtgejmmkfaliinaaWN
import Derived.Test.YtgejmmkfaliinaaWFootNe
import Derived.Test.YtgejmmkfaliinaaWAt
import Derived.Test.YtgejmmkfaliinaaWEqStruct
import Derived.Test.YtgejmmkfaliinaaWRepsOne
import Derived.Test.YtgejmmkfaliinaaWInv
import Derived.Test.YtgejmmkfaliinaaWInvWords
import Derived.Test.YtgejmmkfaliinaaWGuard
import Derived.Test.YtgejmmkfaliinaaWNEv
import Derived.Test.YtgejmmkfaliinaaWMore
namespace Go.Proofs.Ytgejmmkfaliinaa.PLines
open Go.RowKit Go.Proofs.YtgejmmkfaliinaaW.PrintWords Go.Proofs.YtgejmmkfaliinaaW.PrintLast Go.Proofs.YtgejmmkfaliinaaW.PrintMore
attribute [local go_sem] max2_int min2_int max_two min_two max_three min_three max_four min_four   -- for this text's walks alone
set_option linter.unusedVariables false
set_option linter.unusedSimpArgs false



def errW : Option Int → Value
  | none => .nilIface
  | some c => .iface 0 (.int .i64 c)
theorem errW_none : errW none = .nilIface := rfl
theorem errW_some (c : Int) : errW (some c) = .iface 0 (.int .i64 c) := rfl

-- the values' own types

end Go.Proofs.Ytgejmmkfaliinaa.PLines
