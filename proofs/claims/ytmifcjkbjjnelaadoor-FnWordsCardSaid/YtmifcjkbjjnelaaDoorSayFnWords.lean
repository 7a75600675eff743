/- What is left to prove of FnWords: a statement over numbers and lists alone. -/
import Derived.Test.YtmifcjkbjjnelaaDoorMFnWordsx2
namespace Go.Proofs.YtmifcjkbjjnelaaDoor.Pure
open Go.RowKit Go.Proofs.YtmifcjkbjjnelaaDoor.MFnWords Go.Proofs.YtmifcjkbjjnelaaDoorW.PrintWords Go.Proofs.YtmifcjkbjjnelaaDoorW.PrintLast
def FnWords_pure : Prop := ∀ (l0 : List Int), l0.length ≤ maxLen → (∀ x ∈ l0, (Lit.int .u8 x).wf = true) → ∃ k, laws_FnWords.f k l0 = some true
end Go.Proofs.YtmifcjkbjjnelaaDoor.Pure
