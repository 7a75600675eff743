/- What is left to prove of FnExactSplitLines: a statement over numbers and lists alone. -/
import Derived.Test.YtmifcjkbjjnelaaDoorMFnExactSplitLinesx2
namespace Go.Proofs.YtmifcjkbjjnelaaDoor.Pure
open Go.RowKit Go.Proofs.YtmifcjkbjjnelaaDoor.MFnExactSplitLines Go.Proofs.YtmifcjkbjjnelaaDoorW.PrintWords Go.Proofs.YtmifcjkbjjnelaaDoorW.PrintLast
def FnExactSplitLines_pure : Prop := ∀ (a0 : ByteArray), a0.size ≤ maxLen → ∃ k, laws_FnExactSplitLines.f k a0 = some true
end Go.Proofs.YtmifcjkbjjnelaaDoor.Pure
