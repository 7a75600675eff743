/- What is left to prove of FnExactCanonNotes: a statement over numbers and lists alone. -/
import Derived.Test.YtikfdjgigeggjaaMFnExactCanonNotesx6
namespace Go.Proofs.Ytikfdjgigeggjaa.Pure
open Go.RowKit Go.Proofs.Ytikfdjgigeggjaa.MFnExactCanonNotes Go.Proofs.YtikfdjgigeggjaaW.PrintWords Go.Proofs.YtikfdjgigeggjaaW.PrintLast
def FnExactCanonNotes_pure : Prop := ∀ (l0 : List S101), l0.length ≤ maxLen → (∀ x ∈ l0, ((Lit.int .i64 x.f0).wf = true) ∧ ((Lit.int .i64 x.f1).wf = true) ∧ (((Lit.int .i64 x.f2.f0).wf = true) ∧ ((Lit.int .i64 x.f2.f1).wf = true) ∧ ((Lit.int .i64 x.f2.f2).wf = true) ∧ ((Lit.int .i64 x.f2.f3).wf = true) ∧ ((Lit.int .i64 x.f2.f4).wf = true))) → ∃ k, laws_FnExactCanonNotes.f k l0 = some true
end Go.Proofs.Ytikfdjgigeggjaa.Pure
