/- What is left to prove of FnExactIsOpen: a statement over numbers and lists alone. -/
import Derived.Test.YtcicacoieinnjaaPFnExactIsOpenx1
namespace Go.Proofs.Ytcicacoieinnjaa.Pure
open Go.RowKit Go.Proofs.Ytcicacoieinnjaa.PFnExactIsOpen Go.Proofs.YtcicacoieinnjaaW.PrintWords Go.Proofs.YtcicacoieinnjaaW.PrintLast
def FnExactIsOpen_pure : Prop := ∀ (a0_0 : Int) (a0_1 : Int) (a0_2 : Int) (a0_3 : Int) (a0_4 : Int), (Lit.int .i64 a0_0).wf = true → (Lit.int .i64 a0_1).wf = true → (Lit.int .i64 a0_2).wf = true → (Lit.int .i64 a0_3).wf = true → (Lit.int .i64 a0_4).wf = true → laws_FnExactIsOpen.f a0_0 a0_1 a0_2 a0_3 a0_4 = some true
end Go.Proofs.Ytcicacoieinnjaa.Pure
