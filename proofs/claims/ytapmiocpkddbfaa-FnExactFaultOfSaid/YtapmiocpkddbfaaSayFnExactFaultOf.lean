/- What is left to prove of FnExactFaultOf: a statement over numbers and lists alone. -/
import Derived.Test.YtapmiocpkddbfaaMFnExactFaultOfx4
namespace Go.Proofs.Ytapmiocpkddbfaa.Pure
open Go.RowKit Go.Proofs.Ytapmiocpkddbfaa.MFnExactFaultOf Go.Proofs.YtapmiocpkddbfaaW.PrintWords Go.Proofs.YtapmiocpkddbfaaW.PrintLast
def FnExactFaultOf_pure : Prop := ∀ (a0_0 : Int) (a0_1 : Int) (a0_2 : Int) (l0_3 : List Int) (a0_4 : Bool), (Lit.int .i64 a0_0).wf = true → (Lit.int .i64 a0_1).wf = true → (Lit.int .i64 a0_2).wf = true → l0_3.length ≤ maxLen → (∀ x ∈ l0_3, (Lit.int .i64 x).wf = true) → ∃ k, laws_FnExactFaultOf.f k a0_0 a0_1 a0_2 l0_3 a0_4 = some true
end Go.Proofs.Ytapmiocpkddbfaa.Pure
