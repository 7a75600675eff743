/- Whatever the text: IsDigits of the program and of the reference answer alike; no condition beyond the form's own reach. -/
import Derived.Test.YtcicacoieinnjaaSayFnExactIsDigits
import Derived.Test.YtcicacoieinnjaaPureKit
namespace Go.Proofs.Ytcicacoieinnjaa.Pure
open Go.RowKit Go.Proofs.Ytcicacoieinnjaa.MFnExactIsDigits Go.Proofs.Ytcicacoieinnjaa.PureKit Go.Proofs.YtcicacoieinnjaaW.PrintWords Go.Proofs.YtcicacoieinnjaaW.PrintLast
set_option linter.unusedSimpArgs false
set_option linter.unusedVariables false
theorem digits_loop (s : ByteArray) (hs : s.size ≤ 9223372036854775807) (d : Nat) : ∀ (k : Nat) (i : Int), 0 ≤ i → i ≤ s.size → (s.size : Int) - i = d → d < k →
    ∃ r, spec_IsDigits.l0 k s i = some r ∧ impl_IsDigits.l0 k s s.size i = some r := by
  induction d with
  | zero =>
    intro k i h0 h1 hd hk
    obtain ⟨k, rfl⟩ : ∃ m, k = m + 1 := ⟨k - 1, by omega⟩
    simp only [spec_IsDigits.l0, impl_IsDigits.l0]
    rw [if_neg (by omega), if_neg (by omega), toList_ne]
    exact ⟨_, rfl, rfl⟩
  | succ d ih =>
    intro k i h0 h1 hd hk
    obtain ⟨k, rfl⟩ : ∃ m, k = m + 1 := ⟨k - 1, by omega⟩
    have hw : wrap64 (i + 1) = i + 1 := wrap_id (by omega) (by omega)
    obtain ⟨r, e1, e2⟩ := ih k (i + 1) (by omega) (by omega) (by omega) (by omega)
    have hlt : i < (s.size : Int) := by omega
    simp only [spec_IsDigits.l0, impl_IsDigits.l0, hlt, h0, if_true, hw, e1, e2]
    by_cases c1 : bt s i < 48
    · simp only [c1, if_true]; exact ⟨_, rfl, rfl⟩
    · by_cases c2 : bt s i > 57
      · simp only [c1, c2, if_true, if_false]; exact ⟨_, rfl, rfl⟩
      · simp only [c1, c2, if_false]; exact ⟨_, rfl, rfl⟩
theorem FnExactIsDigits : FnExactIsDigits_pure := by
  intro s hs
  unfold maxLen at hs
  obtain ⟨r, e1, e2⟩ := digits_loop s (by omega) s.size (s.size + 1) 0 (by omega) (by omega) (by omega) (by omega)
  refine ⟨s.size + 1, ?_⟩
  unfold laws_FnExactIsDigits.f spec_IsDigits.f impl_IsDigits.f
  rw [e1, e2]
  simp

end Go.Proofs.Ytcicacoieinnjaa.Pure
