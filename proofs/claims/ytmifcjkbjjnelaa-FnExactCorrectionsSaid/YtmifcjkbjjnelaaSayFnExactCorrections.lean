/- What is left to prove of FnExactCorrections: a statement over numbers and lists alone. -/
import Derived.Test.YtmifcjkbjjnelaaMFnExactCorrectionsx2
namespace Go.Proofs.Ytmifcjkbjjnelaa.Pure
open Go.RowKit Go.Proofs.Ytmifcjkbjjnelaa.MFnExactCorrections Go.Proofs.YtmifcjkbjjnelaaW.PrintWords Go.Proofs.YtmifcjkbjjnelaaW.PrintLast
def FnExactCorrections_pure : Prop := ∀ (l0 : List S79) (a1 : Int), l0.length ≤ maxLen → (∀ x ∈ l0, ((Lit.int .i64 x.f0).wf = true) ∧ ((Lit.int .i64 x.f1).wf = true) ∧ (((Lit.int .i64 x.f2.f0).wf = true) ∧ ((Lit.int .i64 x.f2.f1).wf = true) ∧ ((Lit.int .i64 x.f2.f2).wf = true) ∧ ((Lit.int .i64 x.f2.f3).wf = true) ∧ ((Lit.int .i64 x.f2.f4).wf = true))) → (Lit.int .i64 a1).wf = true → ∃ k, laws_FnExactCorrections.f k l0 a1 = some true
end Go.Proofs.Ytmifcjkbjjnelaa.Pure
