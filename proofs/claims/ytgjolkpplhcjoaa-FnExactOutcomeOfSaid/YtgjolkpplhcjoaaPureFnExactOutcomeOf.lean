/- Whatever the game: OutcomeOf of the program and of the reference answer alike; no condition. -/
import Derived.Test.YtgjolkpplhcjoaaSayFnExactOutcomeOf
import Derived.Test.YtgjolkpplhcjoaaPureKit
namespace Go.Proofs.Ytgjolkpplhcjoaa.Pure
open Go.RowKit Go.Proofs.Ytgjolkpplhcjoaa.PFnExactOutcomeOf Go.Proofs.Ytgjolkpplhcjoaa.PureKit Go.Proofs.YtgjolkpplhcjoaaW.PrintWords Go.Proofs.YtgjolkpplhcjoaaW.PrintLast
set_option linter.unusedSimpArgs false
set_option linter.unusedVariables false
theorem FnExactOutcomeOf : FnExactOutcomeOf_pure := by
  intro a0 a1 a2 a3 a4 _ _ _ _ _
  have e : spec_OutcomeOf.f a0 a1 a2 a3 a4 = impl_OutcomeOf.f a0 a1 a2 a3 a4 := rfl
  have h : ∃ r, impl_OutcomeOf.f a0 a1 a2 a3 a4 = some r := by
    unfold impl_OutcomeOf.f impl_GoalsOf.f
    repeat' split
    all_goals simp
    all_goals (repeat' split)
    all_goals simp
  obtain ⟨r, hr⟩ := h
  unfold laws_FnExactOutcomeOf.f laws_toGame.f
  simp only [Option.bind_some, e, hr, if_true]

end Go.Proofs.Ytgjolkpplhcjoaa.Pure
