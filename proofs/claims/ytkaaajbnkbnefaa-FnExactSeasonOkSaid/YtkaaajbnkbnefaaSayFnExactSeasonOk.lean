/- What is left to prove of FnExactSeasonOk: a statement over numbers and lists alone. -/
import Derived.Test.YtkaaajbnkbnefaaMFnExactSeasonOkx4
namespace Go.Proofs.Ytkaaajbnkbnefaa.Pure
open Go.RowKit Go.Proofs.Ytkaaajbnkbnefaa.MFnExactSeasonOk Go.Proofs.YtkaaajbnkbnefaaW.PrintWords Go.Proofs.YtkaaajbnkbnefaaW.PrintLast
def FnExactSeasonOk_pure : Prop := ∀ (a0 : Int) (l1 : List S94), (Lit.int .i64 a0).wf = true → l1.length ≤ maxLen → (∀ x ∈ l1, ((Lit.int .i64 x.f0).wf = true) ∧ ((Lit.int .i64 x.f1).wf = true) ∧ ((Lit.int .i64 x.f2).wf = true) ∧ ((Lit.int .i64 x.f3).wf = true) ∧ ((Lit.int .i64 x.f4).wf = true)) → ∃ k, laws_FnExactSeasonOk.f k a0 l1 = some true
end Go.Proofs.Ytkaaajbnkbnefaa.Pure
