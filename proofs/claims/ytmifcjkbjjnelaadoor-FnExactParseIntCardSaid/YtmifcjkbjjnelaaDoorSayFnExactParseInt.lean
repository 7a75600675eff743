/- What is left to prove of FnExactParseInt: a statement over numbers and lists alone. -/
import Derived.Test.YtmifcjkbjjnelaaDoorMFnExactParseIntx2
namespace Go.Proofs.YtmifcjkbjjnelaaDoor.Pure
open Go.RowKit Go.Proofs.YtmifcjkbjjnelaaDoor.MFnExactParseInt Go.Proofs.YtmifcjkbjjnelaaDoorW.PrintWords Go.Proofs.YtmifcjkbjjnelaaDoorW.PrintLast
def FnExactParseInt_pure : Prop := ∀ (a0 : ByteArray), a0.size ≤ maxLen → ∃ k, laws_FnExactParseInt.f k a0 = some true
end Go.Proofs.YtmifcjkbjjnelaaDoor.Pure
