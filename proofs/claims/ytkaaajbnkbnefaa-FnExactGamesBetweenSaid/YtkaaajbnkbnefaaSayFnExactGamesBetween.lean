/- What is left to prove of FnExactGamesBetween: a statement over numbers and lists alone. -/
import Derived.Test.YtkaaajbnkbnefaaMFnExactGamesBetweenx3
namespace Go.Proofs.Ytkaaajbnkbnefaa.Pure
open Go.RowKit Go.Proofs.Ytkaaajbnkbnefaa.MFnExactGamesBetween Go.Proofs.YtkaaajbnkbnefaaW.PrintWords Go.Proofs.YtkaaajbnkbnefaaW.PrintLast
def FnExactGamesBetween_pure : Prop := ∀ (l0 : List S94) (a1 : Int) (a2 : Int), l0.length ≤ maxLen → (∀ x ∈ l0, ((Lit.int .i64 x.f0).wf = true) ∧ ((Lit.int .i64 x.f1).wf = true) ∧ ((Lit.int .i64 x.f2).wf = true) ∧ ((Lit.int .i64 x.f3).wf = true) ∧ ((Lit.int .i64 x.f4).wf = true)) → (Lit.int .i64 a1).wf = true → (Lit.int .i64 a2).wf = true → ∃ k, laws_FnExactGamesBetween.f k l0 a1 a2 = some true
end Go.Proofs.Ytkaaajbnkbnefaa.Pure
