/- What is left to prove of FnExactLeaderOf: a statement over numbers and lists alone. -/
import Derived.Test.YtkaaajbnkbnefaaMFnExactLeaderOfx2
namespace Go.Proofs.Ytkaaajbnkbnefaa.Pure
open Go.RowKit Go.Proofs.Ytkaaajbnkbnefaa.MFnExactLeaderOf Go.Proofs.YtkaaajbnkbnefaaW.PrintWords Go.Proofs.YtkaaajbnkbnefaaW.PrintLast
def FnExactLeaderOf_pure : Prop := ∀ (l0 : List S84), l0.length ≤ maxLen → (∀ x ∈ l0, ((Lit.int .i64 x.f0).wf = true) ∧ ((Lit.int .i64 x.f1).wf = true) ∧ ((Lit.int .i64 x.f2).wf = true) ∧ ((Lit.int .i64 x.f3).wf = true) ∧ ((Lit.int .i64 x.f4).wf = true) ∧ ((Lit.int .i64 x.f5).wf = true) ∧ ((Lit.int .i64 x.f6).wf = true)) → ∃ k, laws_FnExactLeaderOf.f k l0 = some true
end Go.Proofs.Ytkaaajbnkbnefaa.Pure
