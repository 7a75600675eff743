/- What is left to prove of FnExactOfClub: a statement over numbers and lists alone. -/
import Derived.Test.YtapmiocpkddbfaaMFnExactOfClubx5
namespace Go.Proofs.Ytapmiocpkddbfaa.Pure
open Go.RowKit Go.Proofs.Ytapmiocpkddbfaa.MFnExactOfClub Go.Proofs.YtapmiocpkddbfaaW.PrintWords Go.Proofs.YtapmiocpkddbfaaW.PrintLast
def FnExactOfClub_pure : Prop := ∀ (l0 : List S100) (a1 : Int), l0.length ≤ maxLen → (∀ x ∈ l0, (x.f0.size ≤ maxLen) ∧ ((Lit.int .i64 x.f1).wf = true) ∧ ((Lit.int .i64 x.f2).wf = true)) → (Lit.int .i64 a1).wf = true → ∃ k, laws_FnExactOfClub.f k l0 a1 = some true
end Go.Proofs.Ytapmiocpkddbfaa.Pure
