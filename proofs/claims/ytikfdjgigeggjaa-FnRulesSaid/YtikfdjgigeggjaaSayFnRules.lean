/- What is left to prove of FnRules: a statement over numbers and lists alone. -/
import Derived.Test.YtikfdjgigeggjaaMFnRulesx4
namespace Go.Proofs.Ytikfdjgigeggjaa.Pure
open Go.RowKit Go.Proofs.Ytikfdjgigeggjaa.MFnRules Go.Proofs.YtikfdjgigeggjaaW.PrintWords Go.Proofs.YtikfdjgigeggjaaW.PrintLast
def FnRules_pure : Prop := ∀ (l0 : List Int), l0.length ≤ maxLen → (∀ x ∈ l0, (Lit.int .u8 x).wf = true) → ∃ k, laws_FnRules.f k l0 = some true
end Go.Proofs.Ytikfdjgigeggjaa.Pure
