/- Whatever the key: IsMutual of the program and of the reference answer alike; no condition. -/
import Derived.Test.YtcicacoieinnjaaPFnExactIsMutualx1
import Derived.Test.YtcicacoieinnjaaPureKit
namespace Go.Proofs.Ytcicacoieinnjaa.Pure
open Go.RowKit Go.Proofs.Ytcicacoieinnjaa.PFnExactIsMutual Go.Proofs.Ytcicacoieinnjaa.PureKit Go.Proofs.YtcicacoieinnjaaW.PrintWords Go.Proofs.YtcicacoieinnjaaW.PrintLast
set_option linter.unusedSimpArgs false
set_option linter.unusedVariables false
theorem FnExactIsMutual : laws_FnExactIsMutual.Pure := by
  intro a _
  unfold laws_FnExactIsMutual.f spec_IsMutual.f impl_IsMutual.f
  by_cases h : a = 5 <;> simp [h]

end Go.Proofs.Ytcicacoieinnjaa.Pure
