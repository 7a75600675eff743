/- What is left to prove of FnExactSameNotes: a statement over numbers and lists alone. -/
import Derived.Test.YtkaaajbnkbnefaaMFnExactSameNotesx3
namespace Go.Proofs.Ytkaaajbnkbnefaa.Pure
open Go.RowKit Go.Proofs.Ytkaaajbnkbnefaa.MFnExactSameNotes Go.Proofs.YtkaaajbnkbnefaaW.PrintWords Go.Proofs.YtkaaajbnkbnefaaW.PrintLast
def FnExactSameNotes_pure : Prop := ∀ (l0 : List S96) (l1 : List S96), l0.length ≤ maxLen → (∀ x ∈ l0, ((Lit.int .i64 x.f0).wf = true) ∧ ((Lit.int .i64 x.f1).wf = true) ∧ (((Lit.int .i64 x.f2.f0).wf = true) ∧ ((Lit.int .i64 x.f2.f1).wf = true) ∧ ((Lit.int .i64 x.f2.f2).wf = true) ∧ ((Lit.int .i64 x.f2.f3).wf = true) ∧ ((Lit.int .i64 x.f2.f4).wf = true))) → l1.length ≤ maxLen → (∀ x ∈ l1, ((Lit.int .i64 x.f0).wf = true) ∧ ((Lit.int .i64 x.f1).wf = true) ∧ (((Lit.int .i64 x.f2.f0).wf = true) ∧ ((Lit.int .i64 x.f2.f1).wf = true) ∧ ((Lit.int .i64 x.f2.f2).wf = true) ∧ ((Lit.int .i64 x.f2.f3).wf = true) ∧ ((Lit.int .i64 x.f2.f4).wf = true))) → ∃ k, laws_FnExactSameNotes.f k l0 l1 = some true
end Go.Proofs.Ytkaaajbnkbnefaa.Pure
