/- What is left to prove of FnExactGameOk: a statement over numbers and lists alone. -/
import Derived.Test.YtgjolkpplhcjoaaPFnExactGameOkx1
namespace Go.Proofs.Ytgjolkpplhcjoaa.Pure
open Go.RowKit Go.Proofs.Ytgjolkpplhcjoaa.PFnExactGameOk Go.Proofs.YtgjolkpplhcjoaaW.PrintWords Go.Proofs.YtgjolkpplhcjoaaW.PrintLast
def FnExactGameOk_pure : Prop := ∀ (a0 : Int) (a1_0 : Int) (a1_1 : Int) (a1_2 : Int) (a1_3 : Int) (a1_4 : Int), (Lit.int .i64 a0).wf = true → (Lit.int .i64 a1_0).wf = true → (Lit.int .i64 a1_1).wf = true → (Lit.int .i64 a1_2).wf = true → (Lit.int .i64 a1_3).wf = true → (Lit.int .i64 a1_4).wf = true → ∃ k, laws_FnExactGameOk.f k a0 a1_0 a1_1 a1_2 a1_3 a1_4 = some true
end Go.Proofs.Ytgjolkpplhcjoaa.Pure
