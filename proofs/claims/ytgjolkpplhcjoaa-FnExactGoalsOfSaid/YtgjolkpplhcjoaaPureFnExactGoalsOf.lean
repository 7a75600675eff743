/- Whatever the game: GoalsOf of the program and of the reference answer alike; no condition. -/
import Derived.Test.YtgjolkpplhcjoaaSayFnExactGoalsOf
import Derived.Test.YtgjolkpplhcjoaaPureKit
namespace Go.Proofs.Ytgjolkpplhcjoaa.Pure
open Go.RowKit Go.Proofs.Ytgjolkpplhcjoaa.PFnExactGoalsOf Go.Proofs.Ytgjolkpplhcjoaa.PureKit Go.Proofs.YtgjolkpplhcjoaaW.PrintWords Go.Proofs.YtgjolkpplhcjoaaW.PrintLast
set_option linter.unusedSimpArgs false
set_option linter.unusedVariables false
theorem FnExactGoalsOf : FnExactGoalsOf_pure := by
  intro a0 a1 a2 a3 a4 _ _ _ _ _
  unfold laws_FnExactGoalsOf.f laws_toGame.f spec_GoalsOf.f impl_GoalsOf.f
  simp only [Option.bind_some]
  repeat' split
  all_goals simp_all

end Go.Proofs.Ytgjolkpplhcjoaa.Pure
