/- What is left to prove of FnExactGoalsOf: a statement over numbers and lists alone. -/
import Derived.Test.YtgjolkpplhcjoaaPFnExactGoalsOfx1
namespace Go.Proofs.Ytgjolkpplhcjoaa.Pure
open Go.RowKit Go.Proofs.Ytgjolkpplhcjoaa.PFnExactGoalsOf Go.Proofs.YtgjolkpplhcjoaaW.PrintWords Go.Proofs.YtgjolkpplhcjoaaW.PrintLast
def FnExactGoalsOf_pure : Prop := ∀ (a0_0 : Int) (a0_1 : Int) (a0_2 : Int) (a0_3 : Int) (a0_4 : Int), (Lit.int .i64 a0_0).wf = true → (Lit.int .i64 a0_1).wf = true → (Lit.int .i64 a0_2).wf = true → (Lit.int .i64 a0_3).wf = true → (Lit.int .i64 a0_4).wf = true → laws_FnExactGoalsOf.f a0_0 a0_1 a0_2 a0_3 a0_4 = some true
end Go.Proofs.Ytgjolkpplhcjoaa.Pure
