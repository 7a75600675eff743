/- What is left to prove of FnExactUpTo: a statement over numbers and lists alone. -/
import Derived.Test.YtapmiocpkddbfaaMFnExactUpTox3
namespace Go.Proofs.Ytapmiocpkddbfaa.Pure
open Go.RowKit Go.Proofs.Ytapmiocpkddbfaa.MFnExactUpTo Go.Proofs.YtapmiocpkddbfaaW.PrintWords Go.Proofs.YtapmiocpkddbfaaW.PrintLast
def FnExactUpTo_pure : Prop := ∀ (l0 : List S56) (a1 : Int), l0.length ≤ maxLen → (∀ x ∈ l0, ((Lit.int .i64 x.f0).wf = true) ∧ ((Lit.int .i64 x.f1).wf = true) ∧ (((Lit.int .i64 x.f2.f0).wf = true) ∧ ((Lit.int .i64 x.f2.f1).wf = true) ∧ ((Lit.int .i64 x.f2.f2).wf = true) ∧ ((Lit.int .i64 x.f2.f3).wf = true) ∧ ((Lit.int .i64 x.f2.f4).wf = true))) → (Lit.int .i64 a1).wf = true → ∃ k, laws_FnExactUpTo.f k l0 a1 = some true
end Go.Proofs.Ytapmiocpkddbfaa.Pure
