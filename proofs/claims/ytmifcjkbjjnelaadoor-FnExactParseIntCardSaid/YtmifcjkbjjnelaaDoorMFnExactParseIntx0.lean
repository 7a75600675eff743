/- The functions that FnExactParseInt reaches, each with its contract: the print's form, by wip/tools/myprint.py; no condition of its own. -/
import Derived.Test.YtmifcjkbjjnelaaDoorProg
import Derived.Below
import Derived.Deep.Draws
import Derived.Deep.AppendLies
import Derived.Maps.AppendAt
import Derived.OwnWalk
import Derived.Laws.BytesArg
import Derived.Laws.MakeOwn
import Derived.Laws.OwnMore
import Derived.Deep.OwnRows
import Derived.Tactics
import Derived.Lib.ConvBytes
import Derived.Laws.Slices
import Derived.WalkKit
import Derived.KernelRfl
import Derived.RowKit3
import Derived.Deep.LoopGhost
import Derived.Deep.QuietTactic
import Derived.BigQuiet
import Derived.WideLaws
import Derived.Deep.DeepCutAuto
import Derived.Deep.CutBlock
import Derived.Deep.RegionHeld3
import Derived.Laws.Rows
import Derived.Lib.AppendStr
import Derived.ArgAppend
import Derived.Laws.IdiomCopy
import Derived.OrdersHeld
import Derived.Laws.BitsLemmas
import Derived.RowKit
import Derived.Test.YtmifcjkbjjnelaaDoorShelfI
import Derived.Lib.AppendIntMem
import Derived.Test.YtmifcjkbjjnelaaDoorShelfA
import Derived.Lib.AtoiErrMem
import Derived.Test.YtmifcjkbjjnelaaDoorWWords
import Derived.Test.YtmifcjkbjjnelaaDoorWLast
import Derived.Test.YtmifcjkbjjnelaaDoorWTab
import Derived.Test.YtmifcjkbjjnelaaDoorWFour
import Derived.Test.YtmifcjkbjjnelaaDoorWQPut
import Derived.Test.YtmifcjkbjjnelaaDoorWApart
import Derived.Test.YtmifcjkbjjnelaaDoorWArr
import Derived.Test.YtmifcjkbjjnelaaDoorWZeros
import Derived.Test.YtmifcjkbjjnelaaDoorWFoot
import Derived.Test.YtmifcjkbjjnelaaDoorWKept
import Derived.Test.YtmifcjkbjjnelaaDoorWShare
import Derived.Test.YtmifcjkbjjnelaaDoorWN
import Derived.Test.YtmifcjkbjjnelaaDoorWFootNe
import Derived.Test.YtmifcjkbjjnelaaDoorWAt
import Derived.Test.YtmifcjkbjjnelaaDoorWEqStruct
import Derived.Test.YtmifcjkbjjnelaaDoorWRepsOne
import Derived.Test.YtmifcjkbjjnelaaDoorWInv
import Derived.Test.YtmifcjkbjjnelaaDoorWInvWords
import Derived.Test.YtmifcjkbjjnelaaDoorWGuard
import Derived.Test.YtmifcjkbjjnelaaDoorWNEv
import Derived.Test.YtmifcjkbjjnelaaDoorWMore
namespace Go.Proofs.YtmifcjkbjjnelaaDoor.MFnExactParseInt
open Go.RowKit Go.Proofs.YtmifcjkbjjnelaaDoorW.PrintWords Go.Proofs.YtmifcjkbjjnelaaDoorW.PrintLast Go.Proofs.YtmifcjkbjjnelaaDoorW.PrintMore
attribute [local go_sem] max2_int min2_int max_two min_two max_three min_three max_four min_four   -- for this text's walks alone
set_option linter.unusedVariables false
set_option linter.unusedSimpArgs false



def errW : Option Int → Value
  | none => .nilIface
  | some c => .iface 62 (.int .i64 c)
theorem errW_none : errW none = .nilIface := rfl
theorem errW_some (c : Int) : errW (some c) = .iface 62 (.int .i64 c) := rfl

theorem mine_setCell_drewN (w : World) (n : Nat) (a : Addr) (v : Value) : (w.drewN n).setCell a v = (w.setCell a v).drewN n := rfl
theorem mine_cell_drewN (w : World) (n : Nat) (a : Addr) : (w.drewN n).cell? a = w.cell? a := rfl
theorem info5 : (Tryd.prog.info? 5).map (fun i => (i.zero, i.size, i.bytes)) = some (some (.int .u8 0), 1, 1) := by kernel_rfl
-- the values' own types

end Go.Proofs.YtmifcjkbjjnelaaDoor.MFnExactParseInt
