/- What is left to prove of FnExactPlayGame: a statement over numbers and lists alone. -/
import Derived.Test.YtgjolkpplhcjoaaMFnExactPlayGamex1
namespace Go.Proofs.Ytgjolkpplhcjoaa.Pure
open Go.RowKit Go.Proofs.Ytgjolkpplhcjoaa.MFnExactPlayGame Go.Proofs.YtgjolkpplhcjoaaW.PrintWords Go.Proofs.YtgjolkpplhcjoaaW.PrintLast
def FnExactPlayGame_pure : Prop := ∀ (a0_0 : Int) (a0_1 : Int) (a0_2 : Int) (a0_3 : Int) (a0_4 : Int) (a1 : Int), (Lit.int .i64 a0_0).wf = true → (Lit.int .i64 a0_1).wf = true → (Lit.int .i64 a0_2).wf = true → (Lit.int .i64 a0_3).wf = true → (Lit.int .i64 a0_4).wf = true → (Lit.int .i64 a1).wf = true → laws_FnExactPlayGame.f a0_0 a0_1 a0_2 a0_3 a0_4 a1 = some true
end Go.Proofs.Ytgjolkpplhcjoaa.Pure
