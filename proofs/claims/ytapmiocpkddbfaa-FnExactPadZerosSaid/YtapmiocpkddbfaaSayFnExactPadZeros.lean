/- What is left to prove of FnExactPadZeros: a statement over numbers and lists alone. -/
import Derived.Test.YtapmiocpkddbfaaMFnExactPadZerosx1
namespace Go.Proofs.Ytapmiocpkddbfaa.Pure
open Go.RowKit Go.Proofs.Ytapmiocpkddbfaa.MFnExactPadZeros Go.Proofs.YtapmiocpkddbfaaW.PrintWords Go.Proofs.YtapmiocpkddbfaaW.PrintLast
def FnExactPadZeros_pure : Prop := ∀ (a0 : ByteArray) (a1 : Int), a0.size ≤ maxLen → (Lit.int .i64 a1).wf = true → ∃ k, laws_FnExactPadZeros.f k a0 a1 = some true
end Go.Proofs.Ytapmiocpkddbfaa.Pure
