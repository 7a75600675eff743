/- What is left to prove of FnExactFormatInt: a statement over numbers and lists alone. -/
import Derived.Test.YtmifcjkbjjnelaaDoorMFnExactFormatIntx1
namespace Go.Proofs.YtmifcjkbjjnelaaDoor.Pure
open Go.RowKit Go.Proofs.YtmifcjkbjjnelaaDoor.MFnExactFormatInt Go.Proofs.YtmifcjkbjjnelaaDoorW.PrintWords Go.Proofs.YtmifcjkbjjnelaaDoorW.PrintLast
def FnExactFormatInt_pure : Prop := ∀ (a0 : Int), (Lit.int .i64 a0).wf = true → ∃ k, laws_FnExactFormatInt.f k a0 = some true
end Go.Proofs.YtmifcjkbjjnelaaDoor.Pure
