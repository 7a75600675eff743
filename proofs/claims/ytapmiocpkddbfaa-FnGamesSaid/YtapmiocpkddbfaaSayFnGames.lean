/- What is left to prove of FnGames: a statement over numbers and lists alone. -/
import Derived.Test.YtapmiocpkddbfaaMFnGamesx9
namespace Go.Proofs.Ytapmiocpkddbfaa.Pure
open Go.RowKit Go.Proofs.Ytapmiocpkddbfaa.MFnGames Go.Proofs.YtapmiocpkddbfaaW.PrintWords Go.Proofs.YtapmiocpkddbfaaW.PrintLast
def FnGames_pure : Prop := ∀ (l0 : List Int), l0.length ≤ maxLen → (∀ x ∈ l0, (Lit.int .u8 x).wf = true) → ∃ k, laws_FnGames.f k l0 = some true
end Go.Proofs.Ytapmiocpkddbfaa.Pure
