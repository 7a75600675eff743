/- Whatever the game and the outcome: PlayGame of the program and of the reference answer alike; no condition. -/
import Derived.Test.YtgjolkpplhcjoaaSayFnExactPlayGame
import Derived.Test.YtgjolkpplhcjoaaPureKit
namespace Go.Proofs.Ytgjolkpplhcjoaa.Pure
open Go.RowKit Go.Proofs.Ytgjolkpplhcjoaa.MFnExactPlayGame Go.Proofs.Ytgjolkpplhcjoaa.PureKit Go.Proofs.YtgjolkpplhcjoaaW.PrintWords Go.Proofs.YtgjolkpplhcjoaaW.PrintLast
set_option linter.unusedSimpArgs false
set_option linter.unusedVariables false
theorem in_within (n lo hi : Int) : spec_l01In.f n lo hi = some (decide (lo ≤ n ∧ n ≤ hi)) ∧ impl_within.f n lo hi = some (decide (lo ≤ n ∧ n ≤ hi)) := by
  unfold spec_l01In.f impl_within.f
  by_cases h : lo ≤ n <;> simp [h]
theorem FnExactPlayGame : FnExactPlayGame_pure := by
  intro a0 a1 a2 a3 a4 o _ _ _ _ _ _
  have e : spec_PlayGame.f a0 a1 a2 a3 a4 o = impl_PlayGame.f a0 a1 a2 a3 a4 o := by
    unfold spec_PlayGame.f impl_PlayGame.f
    rw [(in_within _ _ _).1, (in_within _ _ _).2]
  have h : ∃ r, impl_PlayGame.f a0 a1 a2 a3 a4 o = some r := by
    unfold impl_PlayGame.f
    rw [(in_within _ _ _).2]
    simp only [Option.bind_some]
    repeat' split
    all_goals exact ⟨_, rfl⟩
  obtain ⟨r, hr⟩ := h
  unfold laws_FnExactPlayGame.f laws_toGame.f laws_eqGame.f
  simp only [Option.bind_some, e, hr, if_true]

end Go.Proofs.Ytgjolkpplhcjoaa.Pure
