/- Whatever the team: TeamOk of the program and of the reference answer alike; no condition beyond the form's own reach. -/
import Derived.Test.YtgjolkpplhcjoaaSayFnExactTeamOk
import Derived.Test.YtgjolkpplhcjoaaPureKit
namespace Go.Proofs.Ytgjolkpplhcjoaa.Pure
open Go.RowKit Go.Proofs.Ytgjolkpplhcjoaa.PFnExactTeamOk Go.Proofs.Ytgjolkpplhcjoaa.PureKit Go.Proofs.YtgjolkpplhcjoaaW.PrintWords Go.Proofs.YtgjolkpplhcjoaaW.PrintLast
set_option linter.unusedSimpArgs false
set_option linter.unusedVariables false
theorem in_within (n lo hi : Int) : spec_l01In.f n lo hi = some (decide (lo ≤ n ∧ n ≤ hi)) ∧ impl_within.f n lo hi = some (decide (lo ≤ n ∧ n ≤ hi)) := by
  unfold spec_l01In.f impl_within.f
  by_cases h : lo ≤ n <;> simp [h]
theorem name_loop (s : ByteArray) (hs : s.size ≤ 9223372036854775807) (d : Nat) : ∀ (k : Nat) (i : Int), 0 ≤ i → i ≤ s.size → (s.size : Int) - i = d → d < k →
    ∃ r, spec_IsName.l0 k s i = some r ∧ impl_IsName.l0 k s s.size i = some r := by
  induction d with
  | zero =>
    intro k i h0 h1 hd hk
    obtain ⟨k, rfl⟩ : ∃ m, k = m + 1 := ⟨k - 1, by omega⟩
    simp only [spec_IsName.l0, impl_IsName.l0]
    rw [if_neg (by omega), if_neg (by omega), (in_within _ _ _).1, (in_within _ _ _).2]
    exact ⟨_, rfl, rfl⟩
  | succ d ih =>
    intro k i h0 h1 hd hk
    obtain ⟨k, rfl⟩ : ∃ m, k = m + 1 := ⟨k - 1, by omega⟩
    have hw : wrap64 (i + 1) = i + 1 := wrap_id (by omega) (by omega)
    obtain ⟨r, e1, e2⟩ := ih k (i + 1) (by omega) (by omega) (by omega) (by omega)
    have hlt : i < (s.size : Int) := by omega
    simp only [spec_IsName.l0, impl_IsName.l0, hw, e1, e2, hlt, h0, if_true]
    generalize bt s i = b
    repeat' split
    all_goals first | exact ⟨_, rfl, rfl⟩ | (exfalso; omega)
theorem names_alike (s : ByteArray) (hs : s.size ≤ 9223372036854775807) (k : Nat) (hk : s.size < k) : ∃ r, spec_IsName.f k s = some r ∧ impl_IsName.f k s = some r :=
  name_loop s hs s.size k 0 (by omega) (by omega) (by omega) (by omega)
theorem FnExactTeamOk : FnExactTeamOk_pure := by
  intro s a b hs _ _
  unfold maxLen at hs
  obtain ⟨r, e1, e2⟩ := names_alike s (by omega) (s.size + 1) (by omega)
  refine ⟨s.size + 1, ?_⟩
  unfold laws_FnExactTeamOk.f laws_szTeam.f laws_toTeam.f
  by_cases h : wrap64 (1048576 - (s.size : Int)) < 0
  · simp [h]
  · simp only [h, if_false, Option.bind_some, spec_TeamOk.f, impl_TeamOk.f, e1, e2, (in_within _ _ _).1, (in_within _ _ _).2]
    repeat' split
    all_goals simp_all

end Go.Proofs.Ytgjolkpplhcjoaa.Pure
