/- The functions that FnExactIsDigits reaches, each with its contract: the print's form, by wip/tools/myprint.py; no condition of its own. -/
import Derived.Test.YtcicacoieinnjaaProg
import Derived.Below
import Derived.Deep.Draws
import Derived.Deep.AppendLies
import Derived.Maps.AppendAt
import Derived.OwnWalk
import Derived.Laws.BytesArg
import Derived.Laws.MakeOwn
import Derived.Laws.OwnMore
import Derived.Deep.OwnRows
import Derived.Tactics
import Derived.Lib.ConvBytes
import Derived.Laws.Slices
import Derived.WalkKit
import Derived.KernelRfl
import Derived.RowKit3
import Derived.Deep.LoopGhost
import Derived.Deep.QuietTactic
import Derived.BigQuiet
import Derived.WideLaws
import Derived.Deep.DeepCutAuto
import Derived.Deep.CutBlock
import Derived.Deep.RegionHeld3
import Derived.Laws.Rows
import Derived.Lib.AppendStr
import Derived.ArgAppend
import Derived.Laws.IdiomCopy
import Derived.OrdersHeld
import Derived.Laws.BitsLemmas
import Derived.RowKit
import Derived.Test.YtcicacoieinnjaaWWords
import Derived.Test.YtcicacoieinnjaaWLast
import Derived.Test.YtcicacoieinnjaaWTab
import Derived.Test.YtcicacoieinnjaaWFour
import Derived.Test.YtcicacoieinnjaaWQPut
import Derived.Test.YtcicacoieinnjaaWApart
import Derived.Test.YtcicacoieinnjaaWArr
import Derived.Test.YtcicacoieinnjaaWZeros
import Derived.Test.YtcicacoieinnjaaWFoot
import Derived.Test.YtcicacoieinnjaaWKept
import Derived.Test.YtcicacoieinnjaaWShare
import Derived.Test.YtcicacoieinnjaaWN
import Derived.Test.YtcicacoieinnjaaWFootNe
import Derived.Test.YtcicacoieinnjaaWAt
import Derived.Test.YtcicacoieinnjaaWEqStruct
import Derived.Test.YtcicacoieinnjaaWRepsOne
import Derived.Test.YtcicacoieinnjaaWInv
import Derived.Test.YtcicacoieinnjaaWInvWords
import Derived.Test.YtcicacoieinnjaaWGuard
import Derived.Test.YtcicacoieinnjaaWNEv
import Derived.Test.YtcicacoieinnjaaWMore
namespace Go.Proofs.Ytcicacoieinnjaa.MFnExactIsDigits
open Go.RowKit Go.Proofs.YtcicacoieinnjaaW.PrintWords Go.Proofs.YtcicacoieinnjaaW.PrintLast Go.Proofs.YtcicacoieinnjaaW.PrintMore
attribute [local go_sem] max2_int min2_int max_two min_two max_three min_three max_four min_four   -- for this text's walks alone
set_option linter.unusedVariables false
set_option linter.unusedSimpArgs false



def errW : Option Int → Value
  | none => .nilIface
  | some c => .iface 0 (.int .i64 c)
theorem errW_none : errW none = .nilIface := rfl
theorem errW_some (c : Int) : errW (some c) = .iface 0 (.int .i64 c) := rfl

-- the values' own types

end Go.Proofs.Ytcicacoieinnjaa.MFnExactIsDigits
