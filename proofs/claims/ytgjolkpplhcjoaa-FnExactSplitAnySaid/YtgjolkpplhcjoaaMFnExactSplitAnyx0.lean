/- The functions that FnExactSplitAny reaches, each with its contract: the print's form, by wip/tools/myprint.py; no condition of its own. -/
import Derived.Test.YtgjolkpplhcjoaaProg
import Derived.Below
import Derived.Deep.Draws
import Derived.Deep.AppendLies
import Derived.Maps.AppendAt
import Derived.OwnWalk
import Derived.Laws.BytesArg
import Derived.Laws.MakeOwn
import Derived.Laws.OwnMore
import Derived.Deep.OwnRows
import Derived.Tactics
import Derived.Lib.ConvBytes
import Derived.Laws.Slices
import Derived.WalkKit
import Derived.KernelRfl
import Derived.RowKit3
import Derived.Deep.LoopGhost
import Derived.Deep.QuietTactic
import Derived.BigQuiet
import Derived.WideLaws
import Derived.Deep.DeepCutAuto
import Derived.Deep.CutBlock
import Derived.Deep.RegionHeld3
import Derived.Laws.Rows
import Derived.Lib.AppendStr
import Derived.ArgAppend
import Derived.Laws.IdiomCopy
import Derived.OrdersHeld
import Derived.Laws.BitsLemmas
import Derived.RowKit
import Derived.Lib.Bytealg
import Derived.Lib.Strings
import Derived.BigCall
import Derived.Lib.Walk
import Derived.Test.YtgjolkpplhcjoaaWWords
import Derived.Test.YtgjolkpplhcjoaaWLast
import Derived.Test.YtgjolkpplhcjoaaWTab
import Derived.Test.YtgjolkpplhcjoaaWFour
import Derived.Test.YtgjolkpplhcjoaaWQPut
import Derived.Test.YtgjolkpplhcjoaaWApart
import Derived.Test.YtgjolkpplhcjoaaWArr
import Derived.Test.YtgjolkpplhcjoaaWZeros
import Derived.Test.YtgjolkpplhcjoaaWFoot
import Derived.Test.YtgjolkpplhcjoaaWKept
import Derived.Test.YtgjolkpplhcjoaaWShare
import Derived.Test.YtgjolkpplhcjoaaWN
import Derived.Test.YtgjolkpplhcjoaaWFootNe
import Derived.Test.YtgjolkpplhcjoaaWAt
import Derived.Test.YtgjolkpplhcjoaaWEqStruct
import Derived.Test.YtgjolkpplhcjoaaWRepsOne
import Derived.Test.YtgjolkpplhcjoaaWInv
import Derived.Test.YtgjolkpplhcjoaaWInvWords
import Derived.Test.YtgjolkpplhcjoaaWGuard
import Derived.Test.YtgjolkpplhcjoaaWNEv
import Derived.Test.YtgjolkpplhcjoaaWMore
namespace Go.Proofs.Ytgjolkpplhcjoaa.MFnExactSplitAny
open Go.RowKit Go.Proofs.YtgjolkpplhcjoaaW.PrintWords Go.Proofs.YtgjolkpplhcjoaaW.PrintLast Go.Proofs.YtgjolkpplhcjoaaW.PrintMore
attribute [local go_sem] max2_int min2_int max_two min_two max_three min_three max_four min_four   -- for this text's walks alone
set_option linter.unusedVariables false
set_option linter.unusedSimpArgs false



def errW : Option Int → Value
  | none => .nilIface
  | some c => .iface 0 (.int .i64 c)
theorem errW_none : errW none = .nilIface := rfl
theorem errW_some (c : Int) : errW (some c) = .iface 0 (.int .i64 c) := rfl

theorem info5 : (Try.prog.info? 5).map (fun i => (i.zero, i.size, i.bytes)) = some (some (.int .u8 0), 1, 1) := by kernel_rfl
theorem info9 : (Try.prog.info? 9).map (fun i => (i.zero, i.size, i.bytes)) = some (some (.string ⟨#[]⟩), 1, 16) := by kernel_rfl
-- the values' own types

end Go.Proofs.Ytgjolkpplhcjoaa.MFnExactSplitAny
