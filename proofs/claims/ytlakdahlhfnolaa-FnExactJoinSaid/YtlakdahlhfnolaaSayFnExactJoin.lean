/- What is left to prove of FnExactJoin: a statement over numbers and lists alone. -/
import Derived.Test.YtlakdahlhfnolaaMFnExactJoinx1
namespace Go.Proofs.Ytlakdahlhfnolaa.Pure
open Go.RowKit Go.Proofs.Ytlakdahlhfnolaa.MFnExactJoin Go.Proofs.YtlakdahlhfnolaaW.PrintWords Go.Proofs.YtlakdahlhfnolaaW.PrintLast
def FnExactJoin_pure : Prop := ∀ (l0 : List ByteArray) (a1 : ByteArray), l0.length ≤ maxLen → (∀ x ∈ l0, x.size ≤ maxLen) → a1.size ≤ maxLen → ∃ k, laws_FnExactJoin.f k l0 a1 = some true
end Go.Proofs.Ytlakdahlhfnolaa.Pure
