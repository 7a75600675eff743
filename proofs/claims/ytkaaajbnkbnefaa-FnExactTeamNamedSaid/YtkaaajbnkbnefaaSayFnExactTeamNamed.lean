/- What is left to prove of FnExactTeamNamed: a statement over numbers and lists alone. -/
import Derived.Test.YtkaaajbnkbnefaaMFnExactTeamNamedx2
namespace Go.Proofs.Ytkaaajbnkbnefaa.Pure
open Go.RowKit Go.Proofs.Ytkaaajbnkbnefaa.MFnExactTeamNamed Go.Proofs.YtkaaajbnkbnefaaW.PrintWords Go.Proofs.YtkaaajbnkbnefaaW.PrintLast
def FnExactTeamNamed_pure : Prop := ∀ (l0 : List S75) (a1 : ByteArray), l0.length ≤ maxLen → (∀ x ∈ l0, (x.f0.size ≤ maxLen) ∧ ((Lit.int .i64 x.f1).wf = true) ∧ ((Lit.int .i64 x.f2).wf = true)) → a1.size ≤ maxLen → ∃ k, laws_FnExactTeamNamed.f k l0 a1 = some true
end Go.Proofs.Ytkaaajbnkbnefaa.Pure
