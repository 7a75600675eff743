/- The functions that FnExactPadZeros reaches, each with its contract: the print's form, by wip/tools/myprint.py; no condition of its own. -/
import Derived.Test.YtapmiocpkddbfaaProg
import Derived.Below
import Derived.Deep.Draws
import Derived.Deep.AppendLies
import Derived.Maps.AppendAt
import Derived.OwnWalk
import Derived.Laws.BytesArg
import Derived.Laws.MakeOwn
import Derived.Laws.OwnMore
import Derived.Deep.OwnRows
import Derived.Tactics
import Derived.Lib.ConvBytes
import Derived.Laws.Slices
import Derived.WalkKit
import Derived.KernelRfl
import Derived.RowKit3
import Derived.Deep.LoopGhost
import Derived.Deep.QuietTactic
import Derived.BigQuiet
import Derived.WideLaws
import Derived.Deep.DeepCutAuto
import Derived.Deep.CutBlock
import Derived.Deep.RegionHeld3
import Derived.Laws.Rows
import Derived.Lib.AppendStr
import Derived.ArgAppend
import Derived.Laws.IdiomCopy
import Derived.OrdersHeld
import Derived.Laws.BitsLemmas
import Derived.RowKit
import Derived.Test.YtapmiocpkddbfaaShelfR
import Derived.Test.YtapmiocpkddbfaaWWords
import Derived.Test.YtapmiocpkddbfaaWLast
import Derived.Test.YtapmiocpkddbfaaWTab
import Derived.Test.YtapmiocpkddbfaaWFour
import Derived.Test.YtapmiocpkddbfaaWQPut
import Derived.Test.YtapmiocpkddbfaaWApart
import Derived.Test.YtapmiocpkddbfaaWArr
import Derived.Test.YtapmiocpkddbfaaWZeros
import Derived.Test.YtapmiocpkddbfaaWFoot
import Derived.Test.YtapmiocpkddbfaaWKept
import Derived.Test.YtapmiocpkddbfaaWShare
import Derived.Test.YtapmiocpkddbfaaWN
import Derived.Test.YtapmiocpkddbfaaWFootNe
import Derived.Test.YtapmiocpkddbfaaWAt
import Derived.Test.YtapmiocpkddbfaaWEqStruct
import Derived.Test.YtapmiocpkddbfaaWRepsOne
import Derived.Test.YtapmiocpkddbfaaWInv
import Derived.Test.YtapmiocpkddbfaaWInvWords
import Derived.Test.YtapmiocpkddbfaaWGuard
import Derived.Test.YtapmiocpkddbfaaWNEv
import Derived.Test.YtapmiocpkddbfaaWMore
namespace Go.Proofs.Ytapmiocpkddbfaa.MFnExactPadZeros
open Go.RowKit Go.Proofs.YtapmiocpkddbfaaW.PrintWords Go.Proofs.YtapmiocpkddbfaaW.PrintLast Go.Proofs.YtapmiocpkddbfaaW.PrintMore
attribute [local go_sem] max2_int min2_int max_two min_two max_three min_three max_four min_four   -- for this text's walks alone
set_option linter.unusedVariables false
set_option linter.unusedSimpArgs false



def errW : Option Int → Value
  | none => .nilIface
  | some c => .iface 0 (.int .i64 c)
theorem errW_none : errW none = .nilIface := rfl
theorem errW_some (c : Int) : errW (some c) = .iface 0 (.int .i64 c) := rfl

theorem mine_setCell_drewN (w : World) (n : Nat) (a : Addr) (v : Value) : (w.drewN n).setCell a v = (w.setCell a v).drewN n := rfl
theorem mine_cell_drewN (w : World) (n : Nat) (a : Addr) : (w.drewN n).cell? a = w.cell? a := rfl
-- the values' own types

end Go.Proofs.Ytapmiocpkddbfaa.MFnExactPadZeros
