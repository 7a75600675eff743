/- Whatever the game: IsOpen of the program and of the reference answer alike; no condition. -/
import Derived.Test.YtcicacoieinnjaaSayFnExactIsOpen
import Derived.Test.YtcicacoieinnjaaPureKit
namespace Go.Proofs.Ytcicacoieinnjaa.Pure
open Go.RowKit Go.Proofs.Ytcicacoieinnjaa.PFnExactIsOpen Go.Proofs.Ytcicacoieinnjaa.PureKit Go.Proofs.YtcicacoieinnjaaW.PrintWords Go.Proofs.YtcicacoieinnjaaW.PrintLast
set_option linter.unusedSimpArgs false
set_option linter.unusedVariables false
theorem FnExactIsOpen : FnExactIsOpen_pure := by
  intro a0 a1 a2 a3 a4 _ _ _ _ _
  simp [laws_FnExactIsOpen.f, laws_toGame.f, spec_IsOpen.f, impl_IsOpen.f]

end Go.Proofs.Ytcicacoieinnjaa.Pure
