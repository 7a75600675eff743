/- What is left to prove of FnExactSeedOrder: a statement over numbers and lists alone. -/
import Derived.Test.YtapmiocpkddbfaaMFnExactSeedOrderx5
namespace Go.Proofs.Ytapmiocpkddbfaa.Pure
open Go.RowKit Go.Proofs.Ytapmiocpkddbfaa.MFnExactSeedOrder Go.Proofs.YtapmiocpkddbfaaW.PrintWords Go.Proofs.YtapmiocpkddbfaaW.PrintLast
def FnExactSeedOrder_pure : Prop := ∀ (l0 : List S100), l0.length ≤ maxLen → (∀ x ∈ l0, (x.f0.size ≤ maxLen) ∧ ((Lit.int .i64 x.f1).wf = true) ∧ ((Lit.int .i64 x.f2).wf = true)) → ∃ k, laws_FnExactSeedOrder.f k l0 = some true
end Go.Proofs.Ytapmiocpkddbfaa.Pure
