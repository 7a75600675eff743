/- What is left to prove of FnExactTeamOk: a statement over numbers and lists alone. -/
import Derived.Test.YtgjolkpplhcjoaaPFnExactTeamOkx2
namespace Go.Proofs.Ytgjolkpplhcjoaa.Pure
open Go.RowKit Go.Proofs.Ytgjolkpplhcjoaa.PFnExactTeamOk Go.Proofs.YtgjolkpplhcjoaaW.PrintWords Go.Proofs.YtgjolkpplhcjoaaW.PrintLast
def FnExactTeamOk_pure : Prop := ∀ (a0_0 : ByteArray) (a0_1 : Int) (a0_2 : Int), a0_0.size ≤ maxLen → (Lit.int .i64 a0_1).wf = true → (Lit.int .i64 a0_2).wf = true → ∃ k, laws_FnExactTeamOk.f k a0_0 a0_1 a0_2 = some true
end Go.Proofs.Ytgjolkpplhcjoaa.Pure
