/- UsualRules of the program and of the reference answer alike, in memory of its own at each call; no condition. -/
import Derived.Test.YtgjolkpplhcjoaaPFnExactUsualRulesx2
import Derived.Test.YtgjolkpplhcjoaaPureKit
namespace Go.Proofs.Ytgjolkpplhcjoaa.Pure
open Go.RowKit Go.Proofs.Ytgjolkpplhcjoaa.PFnExactUsualRules Go.Proofs.Ytgjolkpplhcjoaa.PureKit Go.Proofs.YtgjolkpplhcjoaaW.PrintWords Go.Proofs.YtgjolkpplhcjoaaW.PrintLast
set_option linter.unusedSimpArgs false
set_option linter.unusedVariables false
theorem FnExactUsualRules : laws_FnExactUsualRules.Pure := by
  refine ⟨20, ?_⟩
  decide +kernel

end Go.Proofs.Ytgjolkpplhcjoaa.Pure
