/- Whatever the key: KeyName of the program and of the reference answer alike; no condition. -/
import Derived.Test.YtgjolkpplhcjoaaPFnExactKeyNamex1
import Derived.Test.YtgjolkpplhcjoaaPureKit
namespace Go.Proofs.Ytgjolkpplhcjoaa.Pure
open Go.RowKit Go.Proofs.Ytgjolkpplhcjoaa.PFnExactKeyName Go.Proofs.Ytgjolkpplhcjoaa.PureKit Go.Proofs.YtgjolkpplhcjoaaW.PrintWords Go.Proofs.YtgjolkpplhcjoaaW.PrintLast
set_option linter.unusedSimpArgs false
set_option linter.unusedVariables false
theorem in_within (n lo hi : Int) : spec_l01In.f n lo hi = some (decide (lo ≤ n ∧ n ≤ hi)) ∧ impl_within.f n lo hi = some (decide (lo ≤ n ∧ n ≤ hi)) := by
  unfold spec_l01In.f impl_within.f
  by_cases h : lo ≤ n <;> simp [h]
theorem FnExactKeyName : laws_FnExactKeyName.Pure := by
  intro a _
  unfold laws_FnExactKeyName.f
  have e : spec_KeyName.f a = impl_KeyName.f a := by
    unfold spec_KeyName.f impl_KeyName.f impl_isKey.f spec_l03Names.f impl_keyNames.f
    rw [(in_within _ _ _).1, (in_within _ _ _).2]
    rfl
  have h : ∃ r, impl_KeyName.f a = some r := by
    unfold impl_KeyName.f impl_isKey.f impl_keyNames.f
    rw [(in_within _ _ _).2]
    by_cases h : 1 ≤ a ∧ a ≤ 8
    · have hw : wrap64 (a - 1) = a - 1 := wrap_id (by omega) (by omega)
      have h0 : 0 ≤ a - 1 := by omega
      have h8 : a - 1 < 8 := by omega
      simp [h, hw, h0, h8]
    · simp [h]
  obtain ⟨r, hr⟩ := h
  rw [e, hr]
  simp

end Go.Proofs.Ytgjolkpplhcjoaa.Pure
