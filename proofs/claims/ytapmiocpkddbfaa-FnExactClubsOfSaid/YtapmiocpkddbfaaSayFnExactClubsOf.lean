/- What is left to prove of FnExactClubsOf: a statement over numbers and lists alone. -/
import Derived.Test.YtapmiocpkddbfaaMFnExactClubsOfx4
namespace Go.Proofs.Ytapmiocpkddbfaa.Pure
open Go.RowKit Go.Proofs.Ytapmiocpkddbfaa.MFnExactClubsOf Go.Proofs.YtapmiocpkddbfaaW.PrintWords Go.Proofs.YtapmiocpkddbfaaW.PrintLast
def FnExactClubsOf_pure : Prop := ∀ (l0 : List S100), l0.length ≤ maxLen → (∀ x ∈ l0, (x.f0.size ≤ maxLen) ∧ ((Lit.int .i64 x.f1).wf = true) ∧ ((Lit.int .i64 x.f2).wf = true)) → ∃ k, laws_FnExactClubsOf.f k l0 = some true
end Go.Proofs.Ytapmiocpkddbfaa.Pure
