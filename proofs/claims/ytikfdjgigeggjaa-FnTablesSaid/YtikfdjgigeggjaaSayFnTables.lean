/- What is left to prove of FnTables: a statement over numbers and lists alone. -/
import Derived.Test.YtikfdjgigeggjaaMFnTablesx10
namespace Go.Proofs.Ytikfdjgigeggjaa.Pure
open Go.RowKit Go.Proofs.Ytikfdjgigeggjaa.MFnTables Go.Proofs.YtikfdjgigeggjaaW.PrintWords Go.Proofs.YtikfdjgigeggjaaW.PrintLast
def FnTables_pure : Prop := ∀ (l0 : List Int), l0.length ≤ maxLen → (∀ x ∈ l0, (Lit.int .u8 x).wf = true) → ∃ k, laws_FnTables.f k l0 = some true
end Go.Proofs.Ytikfdjgigeggjaa.Pure
