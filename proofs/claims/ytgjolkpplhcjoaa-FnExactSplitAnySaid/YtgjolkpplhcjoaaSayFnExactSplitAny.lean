/- What is left to prove of FnExactSplitAny: a statement over numbers and lists alone. -/
import Derived.Test.YtgjolkpplhcjoaaMFnExactSplitAnyx2
namespace Go.Proofs.Ytgjolkpplhcjoaa.Pure
open Go.RowKit Go.Proofs.Ytgjolkpplhcjoaa.MFnExactSplitAny Go.Proofs.YtgjolkpplhcjoaaW.PrintWords Go.Proofs.YtgjolkpplhcjoaaW.PrintLast
def FnExactSplitAny_pure : Prop := ∀ (a0 : ByteArray) (a1 : ByteArray), a0.size ≤ maxLen → a1.size ≤ maxLen → ∃ k, laws_FnExactSplitAny.f k a0 a1 = some true
end Go.Proofs.Ytgjolkpplhcjoaa.Pure
