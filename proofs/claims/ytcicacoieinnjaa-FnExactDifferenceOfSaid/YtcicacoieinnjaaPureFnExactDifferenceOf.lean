/- Whatever the row: DifferenceOf of the program and of the reference answer alike; no condition. -/
import Derived.Test.YtcicacoieinnjaaSayFnExactDifferenceOf
import Derived.Test.YtcicacoieinnjaaPureKit
namespace Go.Proofs.Ytcicacoieinnjaa.Pure
open Go.RowKit Go.Proofs.Ytcicacoieinnjaa.PFnExactDifferenceOf Go.Proofs.Ytcicacoieinnjaa.PureKit Go.Proofs.YtcicacoieinnjaaW.PrintWords Go.Proofs.YtcicacoieinnjaaW.PrintLast
set_option linter.unusedSimpArgs false
set_option linter.unusedVariables false
theorem FnExactDifferenceOf : FnExactDifferenceOf_pure := by
  intro a0 a1 a2 a3 a4 a5 a6 _ _ _ _ _ _ _
  simp [laws_FnExactDifferenceOf.f, laws_toRow.f, spec_DifferenceOf.f, impl_DifferenceOf.f]

end Go.Proofs.Ytcicacoieinnjaa.Pure
