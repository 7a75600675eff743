/- What is left to prove of FnFields: a statement over numbers and lists alone. -/
import Derived.Test.YtbocdhkaeglfcaaMFnFieldsx6
namespace Go.Proofs.Ytbocdhkaeglfcaa.Pure
open Go.RowKit Go.Proofs.Ytbocdhkaeglfcaa.MFnFields Go.Proofs.YtbocdhkaeglfcaaW.PrintWords Go.Proofs.YtbocdhkaeglfcaaW.PrintLast
def FnFields_pure : Prop := ∀ (l0 : List Int), l0.length ≤ maxLen → (∀ x ∈ l0, (Lit.int .u8 x).wf = true) → ∃ k, laws_FnFields.f k l0 = some true
end Go.Proofs.Ytbocdhkaeglfcaa.Pure
