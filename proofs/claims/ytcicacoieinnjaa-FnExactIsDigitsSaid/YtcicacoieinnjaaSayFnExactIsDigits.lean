/- What is left to prove of FnExactIsDigits: a statement over numbers and lists alone. -/
import Derived.Test.YtcicacoieinnjaaMFnExactIsDigitsx1
namespace Go.Proofs.Ytcicacoieinnjaa.Pure
open Go.RowKit Go.Proofs.Ytcicacoieinnjaa.MFnExactIsDigits Go.Proofs.YtcicacoieinnjaaW.PrintWords Go.Proofs.YtcicacoieinnjaaW.PrintLast
def FnExactIsDigits_pure : Prop := ∀ (a0 : ByteArray), a0.size ≤ maxLen → ∃ k, laws_FnExactIsDigits.f k a0 = some true
end Go.Proofs.Ytcicacoieinnjaa.Pure
