/- The functions that FnExactSameRules reaches, each with its contract: the print's form, by wip/tools/myprint.py; no condition of its own. -/
import Derived.Test.YtkaaajbnkbnefaaProg
import Derived.Below
import Derived.Deep.Draws
import Derived.Deep.AppendLies
import Derived.Maps.AppendAt
import Derived.OwnWalk
import Derived.Laws.BytesArg
import Derived.Laws.MakeOwn
import Derived.Laws.OwnMore
import Derived.Deep.OwnRows
import Derived.Tactics
import Derived.Lib.ConvBytes
import Derived.Laws.Slices
import Derived.WalkKit
import Derived.KernelRfl
import Derived.RowKit3
import Derived.Deep.LoopGhost
import Derived.Deep.QuietTactic
import Derived.BigQuiet
import Derived.WideLaws
import Derived.Deep.DeepCutAuto
import Derived.Deep.CutBlock
import Derived.Deep.RegionHeld3
import Derived.Laws.Rows
import Derived.Lib.AppendStr
import Derived.ArgAppend
import Derived.Laws.IdiomCopy
import Derived.OrdersHeld
import Derived.Laws.BitsLemmas
import Derived.RowKit
import Derived.Test.YtkaaajbnkbnefaaWWords
import Derived.Test.YtkaaajbnkbnefaaWLast
import Derived.Test.YtkaaajbnkbnefaaWTab
import Derived.Test.YtkaaajbnkbnefaaWFour
import Derived.Test.YtkaaajbnkbnefaaWQPut
import Derived.Test.YtkaaajbnkbnefaaWApart
import Derived.Test.YtkaaajbnkbnefaaWArr
import Derived.Test.YtkaaajbnkbnefaaWZeros
import Derived.Test.YtkaaajbnkbnefaaWFoot
import Derived.Test.YtkaaajbnkbnefaaWKept
import Derived.Test.YtkaaajbnkbnefaaWShare
import Derived.Test.YtkaaajbnkbnefaaWN
import Derived.Test.YtkaaajbnkbnefaaWFootNe
import Derived.Test.YtkaaajbnkbnefaaWAt
import Derived.Test.YtkaaajbnkbnefaaWEqStruct
import Derived.Test.YtkaaajbnkbnefaaWRepsOne
import Derived.Test.YtkaaajbnkbnefaaWInv
import Derived.Test.YtkaaajbnkbnefaaWInvWords
import Derived.Test.YtkaaajbnkbnefaaWGuard
import Derived.Test.YtkaaajbnkbnefaaWNEv
import Derived.Test.YtkaaajbnkbnefaaWMore
namespace Go.Proofs.Ytkaaajbnkbnefaa.MFnExactSameRules
open Go.RowKit Go.Proofs.YtkaaajbnkbnefaaW.PrintWords Go.Proofs.YtkaaajbnkbnefaaW.PrintLast Go.Proofs.YtkaaajbnkbnefaaW.PrintMore
attribute [local go_sem] max2_int min2_int max_two min_two max_three min_three max_four min_four   -- for this text's walks alone
set_option linter.unusedVariables false
set_option linter.unusedSimpArgs false



def errW : Option Int → Value
  | none => .nilIface
  | some c => .iface 0 (.int .i64 c)
theorem errW_none : errW none = .nilIface := rfl
theorem errW_some (c : Int) : errW (some c) = .iface 0 (.int .i64 c) := rfl

theorem info3 : (Try.prog.info? 3).map (fun i => (i.zero, i.size, i.bytes)) = some (some (.int .i64 0), 1, 8) := by kernel_rfl
-- the values' own types

end Go.Proofs.Ytkaaajbnkbnefaa.MFnExactSameRules
