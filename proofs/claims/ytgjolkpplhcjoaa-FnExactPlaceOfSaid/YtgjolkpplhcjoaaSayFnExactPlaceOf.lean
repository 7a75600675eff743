/- What is left to prove of FnExactPlaceOf: a statement over numbers and lists alone. -/
import Derived.Test.YtgjolkpplhcjoaaPFnExactPlaceOfx1
namespace Go.Proofs.Ytgjolkpplhcjoaa.Pure
open Go.RowKit Go.Proofs.Ytgjolkpplhcjoaa.PFnExactPlaceOf Go.Proofs.YtgjolkpplhcjoaaW.PrintWords Go.Proofs.YtgjolkpplhcjoaaW.PrintLast
def FnExactPlaceOf_pure : Prop := ∀ (l0 : List Int) (a1 : Int), l0.length ≤ maxLen → (∀ x ∈ l0, (Lit.int .i64 x).wf = true) → (Lit.int .i64 a1).wf = true → ∃ k, laws_FnExactPlaceOf.f k l0 a1 = some true
end Go.Proofs.Ytgjolkpplhcjoaa.Pure
