/- What is left to prove of FnExactIsOrder: a statement over numbers and lists alone. -/
import Derived.Test.YtmifcjkbjjnelaaMFnExactIsOrderx2
namespace Go.Proofs.Ytmifcjkbjjnelaa.Pure
open Go.RowKit Go.Proofs.Ytmifcjkbjjnelaa.MFnExactIsOrder Go.Proofs.YtmifcjkbjjnelaaW.PrintWords Go.Proofs.YtmifcjkbjjnelaaW.PrintLast
def FnExactIsOrder_pure : Prop := ∀ (a0 : Int) (l1 : List Int), (Lit.int .i64 a0).wf = true → l1.length ≤ maxLen → (∀ x ∈ l1, (Lit.int .i64 x).wf = true) → ∃ k, laws_FnExactIsOrder.f k a0 l1 = some true
end Go.Proofs.Ytmifcjkbjjnelaa.Pure
