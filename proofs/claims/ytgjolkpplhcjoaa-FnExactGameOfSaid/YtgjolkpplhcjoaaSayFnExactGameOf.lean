/- What is left to prove of FnExactGameOf: a statement over numbers and lists alone. -/
import Derived.Test.YtgjolkpplhcjoaaMFnExactGameOfx2
namespace Go.Proofs.Ytgjolkpplhcjoaa.Pure
open Go.RowKit Go.Proofs.Ytgjolkpplhcjoaa.MFnExactGameOf Go.Proofs.YtgjolkpplhcjoaaW.PrintWords Go.Proofs.YtgjolkpplhcjoaaW.PrintLast
def FnExactGameOf_pure : Prop := ∀ (l0 : List S27) (a1 : Int) (a2 : Int), l0.length ≤ maxLen → (∀ x ∈ l0, ((Lit.int .i64 x.f0).wf = true) ∧ ((Lit.int .i64 x.f1).wf = true) ∧ ((Lit.int .i64 x.f2).wf = true) ∧ ((Lit.int .i64 x.f3).wf = true) ∧ ((Lit.int .i64 x.f4).wf = true)) → (Lit.int .i64 a1).wf = true → (Lit.int .i64 a2).wf = true → ∃ k, laws_FnExactGameOf.f k l0 a1 a2 = some true
end Go.Proofs.Ytgjolkpplhcjoaa.Pure
